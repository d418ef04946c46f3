import Derived.Test.YtdlgihbpiakebaaGreatMd04
import Derived.Test.YtdlgihbpiakebaaGreatMd05
import Derived.Test.YtdlgihbpiakebaaGreatMd15
set_option maxRecDepth 100000
set_option maxHeartbeats 4000000
namespace Go.Proofs.YtdlgihbpiakebaaGreat
open Go Go.RowKit Go.ChangeShapes Go.WideShapes Go.ChangeAt
theorem qJg {P : Program} {t e size bytes : Nat} {z : Value} (T : SlT P t e size bytes z) : P.underlying t = some (.slice (P.elem t)) ∧ P.elem t = e:=by
 have h:=T.under
 have he : P.elem t = e:=by simp [Program.elem,h]
 exact ⟨by rw [he];exact h,he⟩
theorem qDh {P : Program} {t e size bytes : Nat} {z : Value} (T : SlT P t e size bytes z) (w : World) : (sizeOf (P.elem t)).run P w = .ok size w:=by
 obtain ⟨i,hi,_,hs,_⟩:=T.info
 rw [(qJg T).2]
 simp [sizeOf,typeInfo,hi,hs]
section
variable {P : Program} {w : World} {t e bytes : Nat} {z : Value} {v : Value} {n k : Nat} {cs : List Value}
theorem qKX (T : SlT P t e 1 bytes z) (h : Sl w v n cs) (hk : k ≤ n) (kk : IntKind) :
 ∃ v',(∀ w : World,(Instr.slice t v none (some (.int kk (k : Int))) none).run P w = .ok v' w) ∧ Sl w v' k (cs.take k):=by
 obtain ⟨ht,he⟩:=qJg T
 rcases h with ⟨rfl,rfl,rfl⟩ | ⟨a,cap,rfl,h1,h2,h4⟩
 · obtain rfl : k = 0:=by omega
   exact ⟨.slice none 0 0,fun w=>by rw [run_slice_h (P:=P) w t none 0 0 ht kk ((0 : Nat) : Int) (by omega) (by omega),qDh T];simp [sliced],by simpa using Sl.nil w⟩
 · refine ⟨.slice (some a) k cap,?_,?_⟩
   · intro w;rw [run_slice_h (P:=P) w t (some a) n cap ht kk k (by omega) (by omega),qDh T]
     simp only [Result.andThen_ok,sliced,Nat.zero_mul,Option.map_some,Nat.sub_zero,Int.toNat_natCast]
     split <;> simp [Addr.add_zero']
   · refine .inr ⟨a,cap,rfl,by omega,h2,fun j u hj=>h4 j u ?_⟩
     rw [List.getElem?_take] at hj
     split at hj
     · exact hj
     · cases hj
theorem qI9 (T : SlT P t e 1 bytes z) (h : Sl w v n cs) (hk : k ≤ n) (hl : cs.length = n) (kk : IntKind) :
 ∃ v',(∀ w : World,(Instr.slice t v (some (.int kk (k : Int))) none none).run P w = .ok v' w) ∧ Sl w v' (n - k) (cs.drop k):=by
 obtain ⟨ht,he⟩:=qJg T
 rcases h with ⟨rfl,rfl,rfl⟩ | ⟨a,cap,rfl,h1,h2,h4⟩
 · obtain rfl : k = 0:=by omega
   exact ⟨.slice none 0 0,fun w=>by rw [run_slice_l (P:=P) w t none 0 0 ht kk ((0 : Nat) : Int) (by omega) (by omega),qDh T];simp [sliced],by simpa using Sl.nil w⟩
 · by_cases hc : cap = k
   · refine ⟨.slice (some a) (n - k) (cap - k),?_,?_⟩
     · intro w;rw [run_slice_l (P:=P) w t (some a) n cap ht kk k (by omega) (by omega),qDh T]
       simp [sliced,hc]
     · have : cs.drop k = []:=List.drop_of_length_le (by omega)
       rw [this]
       exact .inr ⟨a,cap - k,rfl,by omega,by omega,fun j u hj=>by cases hj⟩
   · refine ⟨.slice (some (a.add k)) (n - k) (cap - k),?_,?_⟩
     · intro w;rw [run_slice_l (P:=P) w t (some a) n cap ht kk k (by omega) (by omega),qDh T]
       simp [sliced,hc]
     · refine .inr ⟨a.add k,cap - k,rfl,by omega,by omega,fun j u hj=>?_⟩
       rw [List.getElem?_drop] at hj
       have:=h4 (k + j) u hj
       have e : (a.add k).add j = a.add (k + j):=by
        unfold Addr.add
        by_cases h1 : k = 0
        · subst h1;simp
        · by_cases h2 : j = 0
          · subst h2;simp
          · simp [h1,h2,Nat.add_assoc]
       rw [e];exact this
theorem qE2 (bs : List UInt8) (k : Nat) : (qA1 bs).take k = qA1 (bs.take k):=by simp [qA1]
theorem qE3 (bs : List UInt8) (k : Nat) : (qA1 bs).drop k = qA1 (bs.drop k):=by simp [qA1]
theorem qQU (T : SlT P t e 1 bytes z) {bs : List UInt8} (h : Sl w v bs.length (qA1 bs)) (hk : k ≤ bs.length) (kk : IntKind) :
 ∃ v',(∀ w : World,(Instr.slice t v none (some (.int kk (k : Int))) none).run P w = .ok v' w) ∧ Sl w v' (bs.take k).length (qA1 (bs.take k)):=by
 obtain ⟨v',h1,h2⟩:=qKX T h hk kk
 refine ⟨v',h1,?_⟩
 rw [qE2] at h2
 rwa [List.length_take,Nat.min_eq_left hk]
theorem qKa (T : SlT P t e 1 bytes z) {bs : List UInt8} (h : Sl w v bs.length (qA1 bs)) (hk : k ≤ bs.length) (kk : IntKind) :
 ∃ v',(∀ w : World,(Instr.slice t v (some (.int kk (k : Int))) none none).run P w = .ok v' w) ∧ Sl w v' (bs.drop k).length (qA1 (bs.drop k)):=by
 obtain ⟨v',h1,h2⟩:=qI9 T h hk (qA6 bs) kk
 refine ⟨v',h1,?_⟩
 rw [qE3] at h2
 rwa [List.length_drop]
end
def qBb (zs : List Int) : List Value:=zs.map (Value.int .i64)
theorem qKY (zs : List Int) (k : Nat) (h : k < zs.length) : (qBb zs)[k]? = some (.int .i64 zs[k]):=by simp [qBb,h]
theorem Sl.int {w : World} {v : Value} {zs : List Int} (h : Sl w v zs.length (qBb zs)) (hc : 0 < zs.length) : ∃ b off cap,v = .slice (some ⟨b,off,none⟩) zs.length cap ∧ zs.length ≤ cap ∧ cap ≤ maxLen ∧ b < w.heap.size ∧ ∀ k (hk : k < zs.length),w.cell? ⟨b,off + k,none⟩ = some (.int .i64 zs[k]):=by
 obtain ⟨b,off,cap,h1,h2,h3,h4,h5⟩:=h.at (by simpa [qBb] using hc)
 exact ⟨b,off,cap,h1,h2,h3,h4,fun k hk=>h5 k _ (qKY zs k hk)⟩
theorem qCN (rows : List (List UInt8)) (k : Nat) (row : List UInt8) (h : rows[k]? = some row) : (rows.take (k + 1)).flatten = (rows.take k).flatten ++ row:=by
 obtain ⟨hk,e⟩:=List.getElem?_eq_some_iff.1 h
 rw [List.take_succ_eq_append_getElem hk,List.flatten_append,e]
 simp
theorem qDi (rows : List (List UInt8)) (k : Nat) : (rows.take k).flatten.length ≤ rows.flatten.length:=by
 have:=congrArg (fun l=>(List.flatten l).length) (List.take_append_drop k rows)
 simp only [List.flatten_append,List.length_append] at this
 omega
def qBE (w : World) (v : Value) (rows : List (List UInt8)) : Prop :=
 ∃ us : List Value,us.length = rows.length ∧ Sl w v rows.length us ∧ ∀ (i : Nat) (bs : List UInt8) (u : Value),rows[i]? = some bs → us[i]? = some u → Sl w u bs.length (qA1 bs)
def qBs (T E : TypeId) (w : World) (B : Nat) (v : Value) (rows : List (List UInt8)) : Prop :=
 ∃ us : List Value,us.length = rows.length ∧ w.ownsRow B T 1 v rows.length us ∧ (∀ u ∈ us,u.oneCell' = true) ∧ ∀ (i : Nat) (bs : List UInt8) (u : Value),rows[i]? = some bs → us[i]? = some u → w.ownsRow B E 1 u bs.length (qA1 bs)
theorem qCY {w : World} {B e size n : Nat} {v : Value} {xs : List Value} (h : w.ownsRow B e size v n xs) : v.oneCell' = true:=by
 rcases h.2 with ⟨rfl,_⟩ | ⟨g,c,cur,rfl,_⟩ <;> rfl
def qEl (w : World) : List Value → List (List UInt8) → Prop
 | [],[]=>True
 | u :: us,r :: rs=>Sl w u r.length (qA1 r) ∧ qEl w us rs
 | _,_=>False
theorem qEl.nil {w : World} : qEl w [] []:=trivial
theorem qEl.cons {w : World} {u : Value} {r : List UInt8} {us : List Value} {rs : List (List UInt8)} (h : Sl w u r.length (qA1 r)) (k : qEl w us rs) : qEl w (u :: us) (r :: rs):=⟨h,k⟩
theorem qEl.len {w : World} : ∀ {us : List Value} {rows : List (List UInt8)},qEl w us rows → us.length = rows.length
 | [],[],_=>rfl
 | u :: us,r :: rs,h=>by simp [qEl.len h.2]
 | [],_ :: _,h=>h.elim
 | _ :: _,[],h=>h.elim
theorem qEl.get {w : World} : ∀ {us : List Value} {rows : List (List UInt8)},qEl w us rows → ∀ (i : Nat) (bs : List UInt8) (u : Value),rows[i]? = some bs → us[i]? = some u → Sl w u bs.length (qA1 bs)
 | [],[],_,i,bs,u,h,_=>by simp at h
 | u :: us,r :: rs,h,0,bs,u',h1,h2=>by simp at h1 h2;subst h1 h2;exact h.1
 | u :: us,r :: rs,h,i + 1,bs,u',h1,h2=>qEl.get h.2 i bs u' (by simpa using h1) (by simpa using h2)
 | [],_ :: _,h,_,_,_,_,_=>h.elim
 | _ :: _,[],h,_,_,_,_,_=>h.elim
theorem qBE.lit {w : World} {us : List Value} {rows : List (List UInt8)} (h : qEl w us rows) (T : TypeId) (n : Nat) (hn : rows.length = n) (hm : n ≤ maxLen) : qBE (w.alloc (.cells us.toArray T)) (.slice (some ⟨w.heap.size,0,none⟩) n n) rows:=by
 subst hn
 refine ⟨us,h.len,Sl.lit w us.toArray T rows.length hm,fun i bs u h1 h2=>(h.get i bs u h1 h2).kept (qal _)⟩
theorem qBE.all {w : World} {v : Value} {rows : List (List UInt8)} (h : qBE w v rows) : ∃ us,Sl w v rows.length us ∧ qEl w us rows:=by
 obtain ⟨us,h1,h2,h3⟩:=h
 refine ⟨us,h2,?_⟩
 clear h2
 induction rows generalizing us with
 | nil =>
  match us,h1 with
  | [],_=>trivial
 | cons r rs ih =>
  match us,h1 with
  | u :: us,h1 =>
   exact ⟨h3 0 r u rfl rfl,ih us (by simpa using h1) fun i bs x hi hx=>h3 (i + 1) bs x (by simpa using hi) (by simpa using hx)⟩
section
variable {T E : TypeId} {w w' : World} {B : Nat} {v : Value} {rows : List (List UInt8)}
theorem qBE.kept (h : qBE w v rows) (hb : qA4 w w') : qBE w' v rows:=by
 obtain ⟨us,h1,h2,h3⟩:=h
 exact ⟨us,h1,h2.kept hb,fun i bs u hi hu=>(h3 i bs u hi hu).kept hb⟩
theorem qBs.sl (h : qBs T E w B v rows) : qBE w v rows:=by
 obtain ⟨us,h1,h2,_,h3⟩:=h
 exact ⟨us,h1,Sl.of_own h2,fun i bs u hi hu=>Sl.of_own (h3 i bs u hi hu)⟩
theorem qBs.empty (h : w.ownsRow B T 1 v 0 []) : qBs T E w B v []:=⟨[],rfl,h,(fun u h=>by cases h),fun i bs u h=>by simp at h⟩
theorem qEm {n m : Nat} {u : Value} {xs ys : List Value} {B' s s' : Nat} (h : w.ownsRow B E s u n xs) (hv : w.ownsRow B' T s' v m ys) (hne : E ≠ T) (hg : w.grownBy w' v.ownBlock) : w'.ownsRow B E s u n xs:=by
 obtain ⟨hl,h⟩:=h
 refine ⟨hl,?_⟩
 rcases h with h | ⟨g,cap,cur,rfl,hbg,hgg,hn,hc,hs,ht⟩
 · exact .inl h
 · refine .inr ⟨g,cap,cur,rfl,hbg,?_,hn,hc,hs,ht⟩
   refine (hg.block g (Array.getElem?_eq_some_iff.1 hgg).1 ?_).trans hgg
   intro e
   rcases hv.2 with ⟨rfl,_⟩ | ⟨g',cap',cur',rfl,_,hg',_⟩
   · cases e
   · simp [Value.ownBlock] at e
     subst e
     rw [hgg] at hg'
     cases hg'
     exact hne rfl
theorem qBs.snoc {us : List Value} {u v' : Value} {bs : List UInt8} (hlen : us.length = rows.length) (h : w.ownsRow B T 1 v rows.length us) (hone : ∀ u ∈ us,u.oneCell' = true)
 (hin : ∀ (i : Nat) (bs : List UInt8) (u : Value),rows[i]? = some bs → us[i]? = some u → w.ownsRow B E 1 u bs.length (qA1 bs))
 (hu : w.ownsRow B E 1 u bs.length (qA1 bs)) (hne : E ≠ T) (hg : w.grownBy w' v.ownBlock) (h' : w'.ownsRow B T 1 v' (rows.length + 1) (us ++ [u])) : qBs T E w' B v' (rows ++ [bs]):=by
 refine ⟨us ++ [u],by simp [hlen],by simpa using h',?_,?_⟩
 · intro x hx
   rcases List.mem_append.1 hx with hx | hx
   · exact hone x hx
   · rw [List.mem_singleton.1 hx];exact qCY hu
 · intro i bs' u' hi hu'
   by_cases hlt : i < rows.length
   · rw [List.getElem?_append_left hlt] at hi
     rw [List.getElem?_append_left (by omega)] at hu'
     exact qEm (hin i bs' u' hi hu') h hne hg
   · have e : i = rows.length:=by
      have:=(List.getElem?_eq_some_iff.1 hi).1
      simp at this;omega
     subst e
     simp at hi
     rw [← hlen] at hu'
     simp at hu'
     subst hi hu'
     exact qEm hu h hne hg
end
end Go.Proofs.YtdlgihbpiakebaaGreat
namespace Go.Proofs.YtdlgihbpiakebaaGreat
def qFx : List UInt8 → List Int → Option (List (List UInt8))
 | b,[]=>if b = [] then some [] else none
 | b,z :: zs=>if 0 ≤ z ∧ z ≤ b.length then (qFx (b.drop z.toNat) zs).map (b.take z.toNat :: ·) else none
theorem qMc {b0 b : List UInt8} {zs : List Int} {pre : List (List UInt8)} {k : Nat} (hk : k < zs.length) (h : qFx b0 zs = (qFx b (zs.drop k)).map (pre ++ ·)) (h0 : 0 ≤ zs[k]) (h1 : zs[k] ≤ b.length) :
 qFx b0 zs = (qFx (b.drop zs[k].toNat) (zs.drop (k + 1))).map ((pre ++ [b.take zs[k].toNat]) ++ ·):=by
 rw [h,List.drop_eq_getElem_cons hk,qFx,if_pos ⟨h0,h1⟩,Option.map_map]
 congr 1
 funext r
 simp
theorem qIa {b0 b : List UInt8} {zs : List Int} {pre : List (List UInt8)} {k : Nat} (hk : k < zs.length) (h : qFx b0 zs = (qFx b (zs.drop k)).map (pre ++ ·)) (h0 : ¬ (0 ≤ zs[k] ∧ zs[k] ≤ b.length)) : qFx b0 zs = none:=by
 rw [h,List.drop_eq_getElem_cons hk,qFx,if_neg h0];rfl
theorem qOc {b0 b : List UInt8} {zs : List Int} {pre : List (List UInt8)} (h : qFx b0 zs = (qFx b (zs.drop zs.length)).map (pre ++ ·)) : qFx b0 zs = if b = [] then some pre else none:=by
 rw [h,List.drop_length,qFx]
 split <;> simp
end Go.Proofs.YtdlgihbpiakebaaGreat
