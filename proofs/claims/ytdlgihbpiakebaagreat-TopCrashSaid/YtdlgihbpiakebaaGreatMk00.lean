import Derived.Below
namespace Go.Proofs.YtdlgihbpiakebaaGreat
theorem qqA {α:Type}(l:List α)(i:Nat)(a:α):l.toArray.setIfInBounds i a=(l.set i a).toArray:=List.setIfInBounds_toArray ..
theorem qq0 {α:Type}(a b:α)(l:List α):(a::l).set 0 b=b::l:=rfl
theorem qq1 {α:Type}(a b:α)(n:Nat)(l:List α):(a::l).set (n+1) b=a::l.set n b:=rfl
theorem qqP {b:Bool}{p q:Prop}[Decidable (b=true)](h:b=true)(x:p):if b=true then p else q:=(if_pos h).mpr x
theorem qqN {b:Bool}{p q:Prop}[Decidable (b=true)](h:b=false)(x:q):if b=true then p else q:=(if_neg (by rw[h];decide)).mpr x
theorem qqB {α:Type}:(∀(l:List α) (i:Nat) (a:α),l.toArray.setIfInBounds i a=(l.set i a).toArray)∧(∀(a b:α) (l:List α),(a::l).set 0 b=b::l)∧∀(a b:α) (n:Nat) (l:List α),(a::l).set (n+1) b=a::l.set n b:=⟨qqA,qq0,qq1⟩
theorem qsm {α:Type}{a:α}:a∈ [a]:=List.mem_singleton.2 rfl
theorem qle {n:Nat}:n≤n:=Nat.le_refl n
theorem qh {p:Prop}(h:p):Go.RowKit.Hid p:=h
theorem qal {w:Go.World}(c:Go.Obj):Go.RowKit.Below w.heap.size w (w.alloc c):=(Go.RowKit.Below.refl _ _).alloc (Nat.le_refl _) c
theorem qqE {α:Type}{b:Bool}{p q:α→Prop}{r:Prop}[Decidable (b=true)](h:b=true){v:α}(x:p v)(y:q v)(_:α):if b=true then(∃v,p v∧q v) else r:=qqP h ⟨v,x,y⟩
end Go.Proofs.YtdlgihbpiakebaaGreat
