namespace Go.Proofs.YtldmebjnklmpfaaGreat
theorem qqA {α : Type} (l : List α) (i : Nat) (a : α) : l.toArray.setIfInBounds i a = (l.set i a).toArray := List.setIfInBounds_toArray ..
theorem qq0 {α : Type} (a b : α) (l : List α) : (a :: l).set 0 b = b :: l := rfl
theorem qq1 {α : Type} (a b : α) (n : Nat) (l : List α) : (a :: l).set (n + 1) b = a :: l.set n b := rfl
theorem qqP {b : Bool} {p q : Prop} [Decidable (b = true)] (h : b = true) (x : p) : if b = true then p else q := (if_pos h).mpr x
theorem qqN {b : Bool} {p q : Prop} [Decidable (b = true)] (h : b = false) (x : q) : if b = true then p else q := (if_neg (by rw [h]; decide)).mpr x
end Go.Proofs.YtldmebjnklmpfaaGreat
