import Derived.Test.YtdlgihbpiakebaaGreatMd02
import Derived.Maps.AppendAt
import Derived.Laws.BytesArg
import Derived.WalkLawsBesides
set_option maxRecDepth 100000
set_option maxHeartbeats 4000000
namespace Go.Proofs.YtdlgihbpiakebaaGreat
open Go Go.RowKit
def qA1 (bs : List UInt8) : List Value:=bs.map V8
theorem qA6 (bs : List UInt8) : (qA1 bs).length = bs.length:=by simp [qA1]
theorem qBf (a b : List UInt8) : qA1 (a ++ b) = qA1 a ++ qA1 b:=by simp [qA1]
theorem qCa (bs : List UInt8) (i : Nat) (h : i < bs.length) : (qA1 bs)[i]? = some (V8 bs[i]):=by simp [qA1,h]
def qD8 (l : List (BitVec 64)) : List Value:=l.map U
def qAz (l : List qAB) : List Value:=l.flatMap fun p=>[U p.1,U p.2]
theorem qEh (l : List qAB) : (qAz l).length = l.length * 2:=by
 induction l with
 | nil=>rfl
 | cons p l ih=>simp only [qAz,List.flatMap_cons,List.length_append] at *;rw [ih];simp;omega
theorem qCT (a b : List qAB) : qAz (a ++ b) = qAz a ++ qAz b:=by simp [qAz]
theorem qGB (l : List qAB) (i : Nat) (h : i < l.length) : (qAz l)[i * 2]? = some (U l[i].1) ∧ (qAz l)[i * 2 + 1]? = some (U l[i].2):=by
 induction l generalizing i with
 | nil=>simp at h
 | cons p l ih =>
  cases i with
  | zero=>simp [qAz]
  | succ i =>
   have:=ih i (by simpa using h)
   have e : qAz (p :: l) = U p.1 :: U p.2 :: qAz l:=by simp [qAz]
   rw [e,show (i + 1) * 2 = (i * 2 + 1) + 1 by omega]
   simpa using this
def Sl (w : World) (v : Value) (n : Nat) (cs : List Value) : Prop :=
 (v = .slice none 0 0 ∧ n = 0 ∧ cs = []) ∨
 ∃ a cap,v = .slice (some a) n cap ∧ n ≤ cap ∧ cap ≤ maxLen ∧ ∀ j u,cs[j]? = some u → w.cell? (a.add j) = some u
theorem qIZ (b off j : Nat) : (⟨b,off,none⟩ : Addr).add j = ⟨b,off + j,none⟩:=by unfold Addr.add;split <;> simp_all
section
variable {w w' : World} {v : Value} {n : Nat} {cs : List Value} {B : Nat} {e : TypeId} {size : Nat}
theorem Sl.nil (w : World) : Sl w (.slice none 0 0) 0 []:=.inl ⟨rfl,rfl,rfl⟩
theorem Sl.at (h : Sl w v n cs) (hc : 0 < cs.length) : ∃ b off cap,v = .slice (some ⟨b,off,none⟩) n cap ∧ n ≤ cap ∧ cap ≤ maxLen ∧ b < w.heap.size ∧ ∀ j u,cs[j]? = some u → w.cell? ⟨b,off + j,none⟩ = some u:=by
 rcases h with ⟨_,_,rfl⟩ | ⟨a,cap,rfl,h1,h2,h3⟩
 · simp at hc
 · have h0:=h3 0 cs[0] (by simp [hc])
   have hspot : (a.add 0).spot = none:=World.cell?_spot h0
   rw [Addr.add_zero'] at hspot h0
   obtain ⟨b,off,spot⟩:=a
   simp only at hspot
   subst hspot
   exact ⟨b,off,cap,rfl,h1,h2,World.block_lt_of_cell? w _ h0,fun j u hj=>by rw [← qIZ];exact h3 j u hj⟩
theorem Sl.mk {b off cap : Nat} (h1 : n ≤ cap) (h2 : cap ≤ maxLen) (h3 : ∀ j u,cs[j]? = some u → w.cell? ⟨b,off + j,none⟩ = some u) : Sl w (.slice (some ⟨b,off,none⟩) n cap) n cs :=
 .inr ⟨⟨b,off,none⟩,cap,rfl,h1,h2,fun j u hj=>by rw [qIZ];exact h3 j u hj⟩
theorem Sl.below {B : Nat} (h : Sl w v n cs) (hb : Below B w w') (hB : ∀ a c,v = .slice (some a) n c → 0 < cs.length → a.block < B) : Sl w' v n cs:=by
 rcases h with h | ⟨a,cap,rfl,h1,h2,h3⟩
 · exact .inl h
 · refine .inr ⟨a,cap,rfl,h1,h2,fun j u hj=>?_⟩
   have hlt : 0 < cs.length:=by
    have:=(List.getElem?_eq_some_iff.1 hj).1;omega
   have e : (a.add j).block = a.block:=by unfold Addr.add;split <;> rfl
   exact (hb.cell (p:=a.add j) (by rw [e];exact hB a cap rfl hlt)).trans (h3 j u hj)
theorem Sl.kept (h : Sl w v n cs) (hb : qA4 w w') : Sl w' v n cs:=by
 refine h.below hb fun a c hv hc=>?_
 obtain ⟨b,off,cap,e,_,_,h3,_⟩:=h.at hc
 rw [hv] at e
 cases e;exact h3
theorem Sl.of_own (h : w.ownsRow B e size v n cs) : Sl w v n cs:=by
 obtain ⟨hl,h⟩:=h
 rcases h with ⟨rfl,rfl⟩ | ⟨g,cap,cur,rfl,hb,hg,hn,hc,hs,ht⟩
 · exact .inl ⟨rfl,rfl,List.eq_nil_of_length_eq_zero (by simpa using hl)⟩
 · refine Sl.mk hn hc fun j u hj=>?_
   rw [Nat.zero_add,cell_of_row w g j cur e (0,0) hg]
   rw [← ht,List.getElem?_take] at hj
   split at hj
   · simpa using hj
   · cases hj
theorem qA3 (h : w.ownsRow B e size v n cs) (hb : qA4 w w') : w'.ownsRow B e size v n cs:=by
 obtain ⟨hl,h⟩:=h
 refine ⟨hl,?_⟩
 rcases h with h | ⟨g,cap,cur,rfl,hbg,hg,hn,hc,hs,ht⟩
 · exact .inl h
 · exact .inr ⟨g,cap,cur,rfl,hbg,(hb.block g (Array.getElem?_eq_some_iff.1 hg).1).trans hg,hn,hc,hs,ht⟩
theorem qAg {B' : Nat} (h : w.ownsRow B e size v n cs) (hB : B' ≤ B) : w.ownsRow B' e size v n cs:=by
 obtain ⟨hl,h⟩:=h
 refine ⟨hl,?_⟩
 rcases h with h | ⟨g,cap,cur,rfl,hbg,rest⟩
 · exact .inl h
 · exact .inr ⟨g,cap,cur,rfl,by omega,rest⟩
theorem qJ0 {row : Option Nat} {B : Nat} (hg : w.grownBy w' row) (hr : ∀ k,row = some k → B ≤ k) (hB : B ≤ w.heap.size) : Below B w w' :=
 ⟨hg.os,hg.tape,hg.output,hg.size,fun k hk=>hg.block k (by omega) (fun e=>by have:=hr k e.symm;omega)⟩
theorem Sl.form (h : Sl w v n cs) : (v = .slice none 0 0 ∧ n = 0 ∧ cs = []) ∨ ∃ a cap,v = .slice (some a) n cap:=by
 rcases h with h | ⟨a,cap,rfl,_⟩
 · exact .inl h
 · exact .inr ⟨_,_,rfl⟩
theorem Sl.len (h : Sl w v n cs) : ∃ a cap,v = .slice a n cap:=by
 rcases h with ⟨rfl,rfl,_⟩ | ⟨a,cap,rfl,_⟩
 · exact ⟨none,0,rfl⟩
 · exact ⟨_,_,rfl⟩
theorem Sl.le (h : Sl w v n cs) : n ≤ maxLen:=by
 rcases h with ⟨_,rfl,_⟩ | ⟨a,cap,_,h1,h2,_⟩
 · exact Nat.zero_le _
 · exact Nat.le_trans h1 h2
end
structure SlT (P : Program) (t e size bytes : Nat) (z : Value) : Prop where
 under : P.underlying t = some (.slice e)
 info : ∃ i,P.info? e = some i ∧ i.zero = some z ∧ i.size = size ∧ i.bytes = bytes
 zero : z.cells.size = size
 pos : 0 < size
section
variable {P : Program} (w : World)
theorem SlT.mk' {t e size bytes : Nat} {z : Value} (h1 : P.underlying t = some (.slice e)) (h2 : (P.info? e).map (fun i=>(i.zero,i.size,i.bytes)) = some (some z,size,bytes)) (h3 : z.cells.size = size) (h4 : 0 < size) : SlT P t e size bytes z:=by
 refine ⟨h1,?_,h3,h4⟩
 cases h : P.info? e with
 | none=>rw [h] at h2;cases h2
 | some i=>rw [h] at h2;simp at h2;exact ⟨i,rfl,h2.1,h2.2.1,h2.2.2⟩
theorem qGC {t e size bytes : Nat} {z : Value} (T : SlT P t e size bytes z) (ty : TypeId) {base : Nat} {v u : Value} {n m : Nat} {xs ys : List Value}
 (hown : w.ownsRow base e size v n xs) (hu : Sl w u m ys) (hl : ys.length = m * size) (h1 : ∀ u ∈ ys,u.oneCell' = true) (h63 : n + m ≤ maxLen) (hbytes : (n + m) * bytes ≤ 140737488355328) (hbase : base ≤ w.heap.size) :
 ∃ v' w',(Builtin.append_ #[t,t] ty #[v,u]).run P w = .ok v' w' ∧ w'.ownsRow base e size v' (n + m) (xs ++ ys) ∧ w.grownBy w' v.ownBlock ∧ (v'.ownBlock = v.ownBlock ∨ v'.ownBlock = some w.heap.size):=by
 obtain ⟨i,hi,hz,hs,hb⟩:=T.info
 rcases hu with ⟨rfl,rfl,rfl⟩ | ⟨ad,cap,rfl,hc1,hc2,hc4⟩
 · refine ⟨v,w,run_append_owned_none w base t ty e i size T.under hi v n xs hown,by simpa using hown,⟨rfl,rfl,rfl,Nat.le_refl _,fun _ _ _=>rfl⟩,.inl rfl⟩
 · obtain ⟨v',w',hr,h2,h3,_,h5⟩:=run_append_own_at w base t ty e i z size bytes T.under hi hz hs hb T.zero T.pos v n xs hown ad m cap ys hl hc4 h1 h63 hbytes hbase
   exact ⟨v',w',hr,h2,h3,h5⟩
theorem qAI (bs : List UInt8) : ∀ u ∈ qA1 bs,u.oneCell' = true:=by
 intro u hu;simp [qA1] at hu;obtain ⟨x,_,rfl⟩:=hu;rfl
theorem qM0 (l : List (BitVec 64)) : ∀ u ∈ qD8 l,u.oneCell' = true:=by
 intro u hu;simp [qD8] at hu;obtain ⟨x,_,rfl⟩:=hu;rfl
theorem qI0 (l : List qAB) : ∀ u ∈ qAz l,u.oneCell' = true:=by
 intro u hu;simp [qAz] at hu;obtain ⟨x,y,_,rfl | rfl⟩:=hu <;> rfl
def Str (bs : List UInt8) : Value:=.string ⟨bs.toArray⟩
theorem qJ1 (bs : List UInt8) : strOfNums (bs.map fun x=>(x.toNat : Int)) = ⟨bs.toArray⟩:=by
 unfold strOfNums
 rw [List.map_map]
 have : (fun n : Int=>UInt8.ofNat n.toNat) ∘ (fun x : UInt8=>(x.toNat : Int)) = id:=by
  funext x;simp
 rw [this,List.map_id]
theorem qDD {src dst e : TypeId} (hs : P.underlying src = some (.slice e)) (he : P.underlying e = some (.int .u8)) (hd : P.underlying dst = some .string) {v : Value} {bs : List UInt8}
 (h : Sl w v bs.length (qA1 bs)) : (convert src dst v).run P w = .ok (Str bs) w:=by
 rcases h with ⟨rfl,h0,hb⟩ | ⟨a,cap,rfl,h1,h2,h4⟩
 · have : bs = []:=List.eq_nil_of_length_eq_zero h0
   subst this
   exact run_convert_bytes_nil w src e hs he 0 0 dst hd
 · have hl : (loadCells a bs.length).run P w = .ok ((bs.map fun x=>(x.toNat : Int)).map (Value.int .u8)).toArray w:=by
    have hm : (bs.map fun x=>(x.toNat : Int)).map (Value.int .u8) = qA1 bs:=by simp [qA1,V8]
    have:=run_loadCells_list (P:=P) w a (qA1 bs) h4
    rw [hm]
    simpa [qA6] using this
   rw [run_convert_bytes_string w src dst e _ bs.length cap hs he hd,run_bytesToString w _ bs.length cap _ hl,foldl_push_bytes]
   have:=qJ1 bs
   unfold strOfNums at this
   simp only [ByteArray.mk.injEq] at this
   unfold Str
   rw [this]
   simp [ByteArray.empty,ByteArray.emptyWithCapacity]
   rfl
@[go_sem] theorem qO3 (t : TypeId) (a b : List UInt8) : binOp .eql t (Str a) (Str b) = pure (.bool (a == b)):=by
 unfold Str;rw [binOp_string_eql,ByteArray.toList_mk,ByteArray.toList_mk]
@[go_sem] theorem qO4 (t : TypeId) (a b : List UInt8) : binOp .neq t (Str a) (Str b) = pure (.bool !(a == b)):=by
 unfold Str;rw [binOp_string_neq,ByteArray.toList_mk,ByteArray.toList_mk]
@[go_sem] theorem qRm (t : TypeId) (a b : List UInt8) : binOp .lss t (Str a) (Str b) = pure (.bool (Op.bytesLess a b)):=by
 unfold Str;rw [binOp_string_lss,ByteArray.toList_mk,ByteArray.toList_mk]
@[go_sem] theorem qQL (t : TypeId) (a l : List UInt8) : binOp .eql t (Str a) (.string ⟨l.toArray⟩) = pure (.bool (a == l)):=qO3 t a l
@[go_sem] theorem qQM (t : TypeId) (a l : List UInt8) : binOp .neq t (Str a) (.string ⟨l.toArray⟩) = pure (.bool !(a == l)):=qO4 t a l
@[go_sem] theorem qNJ (op : BinOp) (t : TypeId) (x y : Operand) (v : Value) (a : List UInt8) : eqGuard op t x y (Str a) v = pure ():=by cases op <;> rfl
theorem qJ2 {t e : TypeId} (ty : TypeId) (ht : P.underlying t = some (.slice e)) {v : Value} {n : Nat} {cs : List Value} (h : Sl w v n cs) : (Builtin.len_ #[t] ty #[v]).run P w = .ok (.int .i64 n) w:=by
 obtain ⟨a,cap,rfl⟩:=h.len
 have hel : P.elem t = e:=by simp [Program.elem,ht]
 have:=run_len_slice (P:=P) w t ty a n cap (by rw [hel];exact ht)
 exact this
end
section
variable {α : Type}
def qJ3 (xs : List α) (z : α) (k : Nat) : List α:=xs.take k ++ List.replicate (xs.length - k) z
theorem qI1 (xs : List α) (z : α) : qJ3 xs z 0 = List.replicate xs.length z:=by simp [qJ3]
theorem qK5 (xs : List α) (z : α) : qJ3 xs z xs.length = xs:=by simp [qJ3]
theorem qK6 (xs : List α) (z : α) (k : Nat) (h : k < xs.length) : (qJ3 xs z k).set k xs[k] = qJ3 xs z (k + 1):=by
 unfold qJ3
 rw [List.set_append_right _ _ (by simp;omega)]
 have e : xs.length - k = (xs.length - (k + 1)) + 1:=by omega
 rw [e,List.replicate_succ]
 have e2 : k - (xs.take k).length = 0:=by simp;omega
 have e3 : xs.take (k + 1) = xs.take k ++ [xs[k]]:=List.take_succ_eq_append_getElem h
 rw [e2,List.set_cons_zero,e3,List.append_assoc]
 rfl
theorem qK7 (xs : List α) (z : α) (k : Nat) (h : k < xs.length) : (qJ3 xs z k)[k]? = some z:=by
 unfold qJ3
 rw [List.getElem?_append_right (by simp;omega)]
 have : k - (xs.take k).length = 0:=by simp;omega
 rw [this,List.getElem?_replicate,if_pos (by omega)]
end
theorem qEN (bs : List UInt8) (k : Nat) (x : UInt8) : (qA1 bs).toArray.setIfInBounds k (V8 x) = (qA1 (bs.set k x)).toArray:=by
 simp [qA1,List.map_set]
section
variable {P : Program} (w : World)
theorem qBR {t e : TypeId} (T : SlT P t e 1 1 (.int .u8 0)) (k k' : IntKind) (n : Nat) (hn : n ≤ 140737488355328) :
 (Instr.makeSlice t (.int k (n : Int)) (.int k' (n : Int))).run P w = .ok (.slice (some ⟨w.heap.size,0,none⟩) n n) (w.alloc (.cells (qA1 (List.replicate n 0)).toArray e)):=by
 obtain ⟨i,hi,hz,hs,hb⟩:=T.info
 have:=run_make (P:=P) w t e i _ T.under hi hz k k' n n (by omega) (Int.le_refl _) (by rw [hb];omega) (by omega)
 rw [this,hs]
 simp only [Int.toNat_natCast]
 congr 4
 apply Array.ext'
 rw [Nat.mul_one]
 show (madeCells #[Value.int .u8 0] n).toList = _
 rw [toList_madeCells_one]
 have : Value.int .u8 0 = V8 0:=rfl
 rw [this]
 simp [qA1]
theorem qCv (n : Nat) (hn : n ≤ maxLen) (e : TypeId) (bs : List UInt8) (hb : bs.length = n) {B : Nat} {w : World} (h : Blk w B (qA1 bs).toArray e) {base : Nat} (hB : base ≤ B) :
 w.ownsRow base e 1 (.slice (some ⟨B,0,none⟩) n n) n (qA1 bs) :=
 ⟨by simp [qA1,hb],.inr ⟨B,n,_,rfl,hB,h,Nat.le_refl _,hn,by simp [qA1,hb],List.take_of_length_le (by simp [qA1,hb])⟩⟩
end
section
variable {P : Program} {w : World} {ops : Array Oper} {rest : List Oper} {o : Oper} {a : Act} {Q : Exit → Act → World → Prop} {K : Act → World → Prop}
theorem qI2 {t e size bytes : Nat} {z : Value} (T : SlT P t e size bytes z) {s x : Operand} (ho : o.op = .call { callee:=.builtin .append,args:=#[s,x],argTypes:=#[t,t] })
 {base : Nat} {v u : Value} {n m : Nat} {xs ys : List Value} (hs : a.eval s = v) (hx : a.eval x = u)
 (hown : w.ownsRow base e size v n xs) (hu : Sl w u m ys) (hl : ys.length = m * size) (h1 : ∀ u ∈ ys,u.oneCell' = true) (h63 : n + m ≤ maxLen) (hbytes : (n + m) * bytes ≤ 140737488355328) (hbase : base ≤ w.heap.size)
 (h : ∀ v' w',w'.ownsRow base e size v' (n + m) (xs ++ ys) → w.grownBy w' v.ownBlock → (v'.ownBlock = v.ownBlock ∨ v'.ownBlock = some w.heap.size) → K (a.put o.dst v') w') : o.wp P a w K Q:=by
 obtain ⟨v',w',hr,h2,h3,h4⟩:=qGC (P:=P) w T o.type hown hu hl h1 h63 hbytes hbase
 unfold Oper.wp execOp
 simp only [ho,resolve,invoke,builtin,Sem.run_bind,Sem.run_pure,Result.andThen_ok,List.map_toArray,List.map_cons,List.map_nil,hs,hx,hr]
 exact h v' w' h2 h3 h4
theorem qAv {t e size bytes : Nat} {z : Value} (T : SlT P t e size bytes z) {s x : Operand} (hgd : o.guard = none) (ho : o.op = .call { callee:=.builtin .append,args:=#[s,x],argTypes:=#[t,t] })
 {base : Nat} {v u : Value} {n m : Nat} {xs ys : List Value} (hs : a.eval s = v) (hx : a.eval x = u)
 (hown : w.ownsRow base e size v n xs) (hu : Sl w u m ys) (hl : ys.length = m * size) (h1 : ∀ u ∈ ys,u.oneCell' = true) (h63 : n + m ≤ maxLen) (hbytes : (n + m) * bytes ≤ 140737488355328) (hbase : base ≤ w.heap.size)
 (h : ∀ v' w',w'.ownsRow base e size v' (n + m) (xs ++ ys) → w.grownBy w' v.ownBlock → (v'.ownBlock = v.ownBlock ∨ v'.ownBlock = some w.heap.size) → wpList P ops Q rest (a.put o.dst v') w') : wpList P ops Q (o :: rest) a w :=
 wpList_plain hgd fun _ hK=>qI2 T ho hs hx hown hu hl h1 h63 hbytes hbase fun v' w' h2 h3 h4=>hK _ _ (h v' w' h2 h3 h4)
theorem Sl.lit (w : World) (cs : Array Value) (t : TypeId) (n : Nat) (hn : n ≤ maxLen) : Sl (w.alloc (.cells cs t)) (.slice (some ⟨w.heap.size,0,none⟩) n n) n cs.toList:=by
 refine Sl.mk qle hn fun j u hj=>?_
 rw [Nat.zero_add,(Blk.new w cs t).cell j]
 simpa using hj
theorem Sl.one (w : World) (x : Value) (t : TypeId) : Sl (w.alloc (.cells #[x] t)) (.slice (some ⟨w.heap.size,0,none⟩) 1 1) 1 [x]:=Sl.lit w #[x] t 1 (by decide)
theorem qAD {B e size n : Nat} {w0 w w' : World} {v : Value} {xs : List Value} (hb : Below B w0 w) (hown : w.ownsRow B e size v n xs) (hg : w.grownBy w' v.ownBlock) (hB : B ≤ w.heap.size) : Below B w0 w' :=
 hb.trans (qJ0 hg (fun k hk=>(hown.lt k hk).1) hB)
end
structure Chg (bs : List Nat) (w w' : World) : Prop where
 os : w'.os = w.os
 tape : w'.tape = w.tape
 output : w'.output = w.output
 size : w.heap.size ≤ w'.heap.size
 block : ∀ k,k < w.heap.size → k ∉ bs → w'.heap[k]? = w.heap[k]?
section
variable {bs cs : List Nat} {w w' w'' : World}
theorem Chg.refl (bs : List Nat) (w : World) : Chg bs w w:=⟨rfl,rfl,rfl,Nat.le_refl _,fun _ _ _=>rfl⟩
theorem Chg.trans (h : Chg bs w w') (k : Chg bs w' w'') : Chg bs w w'' :=
 ⟨k.os.trans h.os,k.tape.trans h.tape,k.output.trans h.output,Nat.le_trans h.size k.size,fun i hi hn=>(k.block i (Nat.lt_of_lt_of_le hi h.size) hn).trans (h.block i hi hn)⟩
theorem Chg.mono (h : Chg bs w w') (hs : ∀ b ∈ bs,b ∈ cs) : Chg cs w w':=⟨h.os,h.tape,h.output,h.size,fun k hk hn=>h.block k hk fun hm=>hn (hs k hm)⟩
theorem Chg.of_grown {b : Nat} (h : w.grownBy w' (some b)) : Chg [b] w w':=⟨h.os,h.tape,h.output,h.size,fun k hk hn=>h.block k hk fun e=>hn (by rw [Option.some.inj e];simp)⟩
theorem Chg.of_kept (h : qA4 w w') : Chg bs w w':=⟨h.os,h.tape,h.output,h.size,fun k hk _=>h.block k hk⟩
theorem Chg.set {b : Nat} (h : Chg bs w w') (hb : b ∈ bs) (o : Nat) (v : Value) : Chg bs w (w'.setCell ⟨b,o,none⟩ v) :=
 ⟨h.os,h.tape,h.output,Nat.le_trans h.size (by simp [World.setCell]),fun k hk hn=>(Below.heap_setCell _ _ _ _ (fun e=>hn (by have e : k = b:=e;rw [e];exact hb))).trans (h.block k hk hn)⟩
theorem Chg.blk {c : Nat} {xs : Array Value} {t : TypeId} (h : Chg bs w w') (hc : Blk w c xs t) (hn : c ∉ bs) : Blk w' c xs t:=(h.block c hc.lt hn).trans hc
theorem Chg.below {B : Nat} (h : Chg bs w w') (hB : ∀ b ∈ bs,B ≤ b) (hs : B ≤ w.heap.size) : Below B w w' :=
 ⟨h.os,h.tape,h.output,h.size,fun k hk=>h.block k (Nat.lt_of_lt_of_le hk hs) fun hm=>by have:=hB k hm;omega⟩
theorem Chg.cell {a : Addr} {v : Value} (h : Chg bs w w') (hc : w.cell? a = some v) (hn : a.block ∉ bs) : w'.cell? a = some v:=by
 have hlt : a.block < w.heap.size:=World.block_lt_of_cell? w _ hc
 unfold World.cell? at hc ⊢
 rw [h.block a.block hlt hn]
 exact hc
end
end Go.Proofs.YtdlgihbpiakebaaGreat
namespace Go.Proofs.YtdlgihbpiakebaaGreat
open Go
def rl (x : BitVec 64) (n : Nat) : BitVec 64:=x <<< n ||| x >>> (64 - n)
def rr (x : BitVec 64) (n : Nat) : BitVec 64:=x >>> n ||| x <<< (64 - n)
theorem qRJ (x : BitVec 64) (n : Nat) (h : n ≤ 64) : rl x (64 - n) = rr x n:=by
 unfold rl rr
 rw [show 64 - (64 - n) = n by omega,BitVec.or_comm]
def qRn (s : qAB) (k : BitVec 64) : qAB:=((rr s.1 8 + s.2) ^^^ k,rl s.2 3 ^^^ ((rr s.1 8 + s.2) ^^^ k))
def kst (key : qAB) : Nat → qAB
 | 0=>key
 | n + 1=>qRn (kst key n) (BitVec.ofNat 64 n)
def qHb (key : qAB) (n : Nat) : List (BitVec 64):=(List.range n).map fun i=>(kst key i).2
theorem qI3 (key : qAB) (n : Nat) : (qHb key n).length = n:=by simp [qHb]
theorem qKP (key : qAB) (n : Nat) : qHb key (n + 1) = qHb key n ++ [(kst key n).2]:=by simp [qHb,List.range_succ]
theorem qM1 (key : qAB) (n i : Nat) (h : i < n) : (qHb key n)[i]? = some (kst key i).2:=by simp [qHb,h]
def qO5 (key b : qAB) : Nat → qAB
 | 0=>b
 | n + 1=>qRn (qO5 key b n) (kst key n).2
def qKQ (key b : qAB) : qAB:=qO5 key b 32
end Go.Proofs.YtdlgihbpiakebaaGreat
namespace Go.Proofs.YtdlgihbpiakebaaGreat
open Go Go.RowKit
structure qK8 (row : Option Nat) (k : Nat) (e : TypeId) (w w' : World) : Prop where
 os : w'.os = w.os
 tape : w'.tape = w.tape
 output : w'.output = w.output
 size : w.heap.size ≤ w'.heap.size
 block : ∀ i,i < w.heap.size → w'.heap[i]? = w.heap[i]? ∨ (row = some i ∧ ∃ cur cur' : Array Value,w.heap[i]? = some (.cells cur e (0,0)) ∧ w'.heap[i]? = some (.cells cur' e (0,0)) ∧ cur'.size = cur.size ∧ cur'.toList.take k = cur.toList.take k ∧ k < cur.size)
section
variable {P : Program} {w w' : World} {row : Option Nat} {k : Nat} {e : TypeId} {base size n : Nat} {v : Value} {xs : List Value}
theorem qK8.of_grown (h : w.grownBy w' none) : qK8 row k e w w':=⟨h.os,h.tape,h.output,h.size,fun i hi=>.inl (h.block i hi (by simp))⟩
theorem qK8.own (h : qK8 row k e w w') (hown : w.ownsRow base e size v n xs) (hk : n * size ≤ k) : w'.ownsRow base e size v n xs:=by
 obtain ⟨hl,hown⟩:=hown
 refine ⟨hl,?_⟩
 rcases hown with h0 | ⟨g,cap,cur,rfl,hb,hg,hn,hc,hs,ht⟩
 · exact .inl h0
 · have hlt : g < w.heap.size:=(Array.getElem?_eq_some_iff.1 hg).1
   rcases h.block g hlt with hsame | ⟨_,c1,c2,h1,h2,h3,h4,_⟩
   · exact .inr ⟨g,cap,cur,rfl,hb,hsame.trans hg,hn,hc,hs,ht⟩
   · rw [h1] at hg
     cases hg
     refine .inr ⟨g,cap,c2,rfl,hb,h2,hn,hc,h3.trans hs,?_⟩
     rw [← ht]
     have:=congrArg (List.take (n * size)) h4
     rw [List.take_take,List.take_take,Nat.min_eq_left hk] at this
     exact this
theorem qK8.below {B : Nat} (h : qK8 row k e w w') (hB : ∀ i,row = some i → B ≤ i) (hs : B ≤ w.heap.size) : Below B w w' :=
 ⟨h.os,h.tape,h.output,h.size,fun i hi=>by
  rcases h.block i (by omega) with hsame | ⟨hr,_⟩
  · exact hsame
  · have:=hB i hr;omega⟩
theorem qJ4 {t size bytes : Nat} {z : Value} (w : World) (T : SlT P t e size bytes z) (ty : TypeId) {u : Value} {m : Nat} {ys : List Value}
 (hown : w.ownsRow base e size v n xs) (hu : Sl w u m ys) (hl : ys.length = m * size) (h1 : ∀ u ∈ ys,u.oneCell' = true) (h63 : n + m ≤ maxLen) (hbytes : (n + m) * bytes ≤ 140737488355328) (hbase : base ≤ w.heap.size) :
 ∃ v' w',(Builtin.append_ #[t,t] ty #[v,u]).run P w = .ok v' w' ∧ w'.ownsRow base e size v' (n + m) (xs ++ ys) ∧ qK8 v.ownBlock (n * size) e w w' ∧ (v'.ownBlock = v.ownBlock ∨ v'.ownBlock = some w.heap.size) ∧ (m = 0 → v' = v):=by
 obtain ⟨i,hi,hz,hs,hb⟩:=T.info
 have hsmall : n + m ≤ 9223372036854775807:=by simp only [maxLen] at h63;omega
 obtain ⟨v',w',hr,h2,h3,h4⟩:=qGC (P:=P) w T ty hown hu hl h1 h63 hbytes hbase
 refine ⟨v',w',hr,h2,?_,h4,?_⟩
 · rcases hown.2 with ⟨rfl,_⟩ | ⟨g,cap,cur,rfl,hbg,hg,hnc,hcm,hcs,htake⟩
   · exact qK8.of_grown h3
   · rcases hu with ⟨rfl,rfl,rfl⟩ | ⟨ad,c,rfl,hc1,hc2,hc4⟩
     · have:=run_append_owned_none (P:=P) w base t ty e i size T.under hi _ n xs hown
       rw [hr] at this
       cases this
       exact ⟨rfl,rfl,rfl,Nat.le_refl _,fun _ _=>.inl rfl⟩
     · by_cases hroom : n + m ≤ cap
       · have hfit : n * i.size + ys.length ≤ cur.size:=by rw [hl,hcs,hs,← Nat.add_mul];exact Nat.mul_le_mul_right _ hroom
         have:=run_append_room (P:=P) w t ty e i T.under hi g n cap cur hg ad m c ys (by rw [hs];exact hl) hc4 h1 hroom hfit
         rw [hr] at this
         cases this
         rw [hs] at *
         by_cases hm : m = 0
         · subst hm
           have hy : ys = []:=List.eq_nil_of_length_eq_zero (by simpa using hl)
           subst hy
           refine ⟨rfl,rfl,rfl,by simp,fun k hk=>.inl ?_⟩
           by_cases hkg : k = g
           · subst hkg
             rw [setRow_heap w k cur _ e _ hg,hg]
             simp
           · exact setRow_other w g k _ hkg
         · refine ⟨rfl,rfl,rfl,by simp,fun k hk=>?_⟩
           by_cases hkg : k = g
           · subst hkg
             have hpos:=T.pos
             have hyl : 0 < ys.length:=by rw [hl];exact Nat.mul_pos (by omega) hpos
             refine .inr ⟨rfl,cur,_,hg,setRow_heap w k cur _ e _ hg,?_,?_,by omega⟩
             · simp only [List.size_toArray,List.length_append,List.length_take,List.length_drop,Array.length_toList]
               omega
             · simp only []
               rw [List.append_assoc,List.take_append_of_le_length (by simp;omega),List.take_take,Nat.min_self]
           · exact .inl (setRow_other w g k _ hkg)
       · have holds : ∀ j u,xs[j]? = some u → w.cell? ((⟨g,0,none⟩ : Addr).add j) = some u:=hown.cells (g:=g) rfl
         have:=run_append_grow (P:=P) w t ty e i z T.under hi hz ⟨g,0,none⟩ n cap xs (by rw [hs];exact hown.1) holds ad m c ys (by rw [hs];exact hl) hc4 (by omega) (by omega) (by rw [hb];exact growslice_fits (by omega) hbytes)
         rw [hr] at this
         cases this
         exact ⟨rfl,rfl,rfl,by simp,fun k hk=>.inl (heap_alloc_old w.drew _ hk)⟩
 · intro hm
   subst hm
   have hy : ys = []:=List.eq_nil_of_length_eq_zero (by simpa using hl)
   subst hy
   rcases hu with ⟨rfl,_,_⟩ | ⟨ad,c,rfl,hc1,hc2,hc4⟩
   · have:=run_append_owned_none (P:=P) w base t ty e i size T.under hi _ n xs hown
     rw [hr] at this
     cases this
     rfl
   · rcases hown.2 with ⟨rfl,rfl⟩ | ⟨g,cap,cur,rfl,hbg,hg,hnc,hcm,hcs,htake⟩
     · have : (Builtin.append_ #[t,t] ty #[.slice none 0 0,.slice (some ad) 0 c]).run P w = .ok (.slice none 0 0) w:=by
        simp [Builtin.append_,run_underlying T.under,sizeOf,typeInfo,hi,Builtin.lenOf,Builtin.firstCells,loadCells,loadCellsFrom]
       rw [hr] at this
       cases this
       rfl
     · have:=run_append_room (P:=P) w t ty e i T.under hi g n cap cur hg ad 0 c [] (by simp) (by simp) (by simp) (by omega) (by rw [hcs,hs];simp;exact Nat.mul_le_mul_right _ hnc)
       rw [hr] at this
       cases this
       rfl
end
section
variable {P : Program} {w : World} {ops : Array Oper} {rest : List Oper} {o : Oper} {a : Act} {Q : Exit → Act → World → Prop} {K : Act → World → Prop}
theorem qBC {t e size bytes : Nat} {z : Value} (T : SlT P t e size bytes z) {s x : Operand} (ho : o.op = .call { callee:=.builtin .append,args:=#[s,x],argTypes:=#[t,t] })
 {base : Nat} {v u : Value} {n m : Nat} {xs ys : List Value} (hs : a.eval s = v) (hx : a.eval x = u)
 (hown : w.ownsRow base e size v n xs) (hu : Sl w u m ys) (hl : ys.length = m * size) (h1 : ∀ u ∈ ys,u.oneCell' = true) (h63 : n + m ≤ maxLen) (hbytes : (n + m) * bytes ≤ 140737488355328) (hbase : base ≤ w.heap.size)
 (h : ∀ v' w',w'.ownsRow base e size v' (n + m) (xs ++ ys) → qK8 v.ownBlock (n * size) e w w' → (v'.ownBlock = v.ownBlock ∨ v'.ownBlock = some w.heap.size) → (m = 0 → v' = v) → K (a.put o.dst v') w') : o.wp P a w K Q:=by
 obtain ⟨v',w',hr,h2,h3,h4,h5⟩:=qJ4 (P:=P) w T o.type hown hu hl h1 h63 hbytes hbase
 unfold Oper.wp execOp
 simp only [ho,resolve,invoke,builtin,Sem.run_bind,Sem.run_pure,Result.andThen_ok,List.map_toArray,List.map_cons,List.map_nil,hs,hx,hr]
 exact h v' w' h2 h3 h4 h5
theorem qB6 {t e size bytes : Nat} {z : Value} (T : SlT P t e size bytes z) {s x : Operand} (hgd : o.guard = none) (ho : o.op = .call { callee:=.builtin .append,args:=#[s,x],argTypes:=#[t,t] })
 {base : Nat} {v u : Value} {n m : Nat} {xs ys : List Value} (hs : a.eval s = v) (hx : a.eval x = u)
 (hown : w.ownsRow base e size v n xs) (hu : Sl w u m ys) (hl : ys.length = m * size) (h1 : ∀ u ∈ ys,u.oneCell' = true) (h63 : n + m ≤ maxLen) (hbytes : (n + m) * bytes ≤ 140737488355328) (hbase : base ≤ w.heap.size)
 (h : ∀ v' w',w'.ownsRow base e size v' (n + m) (xs ++ ys) → qK8 v.ownBlock (n * size) e w w' → (v'.ownBlock = v.ownBlock ∨ v'.ownBlock = some w.heap.size) → (m = 0 → v' = v) → wpList P ops Q rest (a.put o.dst v') w') : wpList P ops Q (o :: rest) a w :=
 wpList_plain hgd fun _ hK=>qBC T ho hs hx hown hu hl h1 h63 hbytes hbase fun v' w' h2 h3 h4 h5=>hK _ _ (h v' w' h2 h3 h4 h5)
end
def qB9 (l : List (BitVec 32)) : List Value:=l.map W
theorem qBL (l : List (BitVec 32)) : (qB9 l).length = l.length:=by simp [qB9]
theorem qEi (a b : List (BitVec 32)) : qB9 (a ++ b) = qB9 a ++ qB9 b:=by simp [qB9]
theorem qDE (l : List (BitVec 32)) (i : Nat) (h : i < l.length) : (qB9 l)[i]? = some (W l[i]):=by simp [qB9,h]
theorem qI4 (l : List (BitVec 32)) : ∀ u ∈ qB9 l,u.oneCell' = true:=by
 intro u hu;simp [qB9] at hu;obtain ⟨x,_,rfl⟩:=hu;rfl
def qO6 (seed : BitVec 64) (e : BitVec 32) : qAB:=qKQ (seed,seed) (0#64,e.setWidth 64)
def qAi (l : List (BitVec 32)) : BitVec 32:=l[l.length - 1]?.getD 0#32
theorem qFI (l : List (BitVec 32)) (h : 0 < l.length) : l[l.length - 1]? = some (qAi l):=by
 unfold qAi
 rw [List.getElem?_eq_getElem (by omega)];rfl
theorem qEO (l : List (BitVec 32)) (x : BitVec 32) : qAi (l ++ [x]) = x:=by simp [qAi]
def gone (below now e : BitVec 32) : Bool:=decide (e < below) && (e != now)
def qDX (l : List (BitVec 32)) (below : BitVec 32) : List (BitVec 32):=l.filter fun e=>!gone below (qAi l) e
def qEj (l : List (BitVec 32)) : Prop:=l.Pairwise (· < ·)
theorem qEP (l : List (BitVec 32)) (below : BitVec 32) (h : 0 < l.length) : 0 < (qDX l below).length ∧ qAi (qDX l below) = qAi l:=by
 obtain ⟨m,hm⟩ : ∃ m,l = m ++ [qAi l]:=by
  refine ⟨l.dropLast,?_⟩
  have h1 : l ≠ []:=by intro e;rw [e] at h;simp at h
  have h2:=List.dropLast_concat_getLast h1
  have h3 : l.getLast h1 = qAi l:=by
   unfold qAi
   rw [List.getLast_eq_getElem,List.getElem?_eq_getElem (by omega)];rfl
  rw [h3] at h2;exact h2.symm
 unfold qDX
 generalize qAi l = x at *
 subst hm
 rw [List.filter_append]
 have e1 : ([x].filter fun e=>!gone below x e) = [x]:=by simp [gone]
 rw [e1]
 exact ⟨by simp,qEO _ _⟩
theorem qHc {l : List (BitVec 32)} (h : qEj l) (below : BitVec 32) : qEj (qDX l below):=List.Pairwise.filter _ h
theorem qQN {l : List (BitVec 32)} (h : qEj l) (i : Nat) (hi : i + 1 < l.length) : l[i] ≠ qAi l:=by
 unfold qAi
 rw [List.getElem?_eq_getElem (by omega)]
 simp only [Option.getD_some]
 intro e
 have:=List.pairwise_iff_getElem.1 h i (l.length - 1) (by omega) (by omega) (by omega)
 rw [e] at this
 exact absurd this (by simp)
theorem qJ5 {l : List (BitVec 32)} (h : qEj l) (h0 : 0 < l.length) (x : BitVec 32) (hx : qAi l < x) : qEj (l ++ [x]):=by
 unfold qEj
 rw [List.pairwise_append]
 refine ⟨h,by simp,fun a ha b hb=>?_⟩
 rw [List.mem_singleton] at hb
 subst hb
 obtain ⟨i,hi,rfl⟩:=List.getElem_of_mem ha
 by_cases hl : i + 1 < l.length
 · have h1:=List.pairwise_iff_getElem.1 h i (l.length - 1) (by omega) (by omega) (by omega)
   have h2 : l[l.length - 1] = qAi l:=by
    unfold qAi;rw [List.getElem?_eq_getElem (by omega)];rfl
   rw [h2] at h1
   simp only [BitVec.lt_def] at *
   omega
 · have h2 : l[i] = qAi l:=by
    unfold qAi;rw [List.getElem?_eq_getElem (by omega)]
    simp only [Option.getD_some]
    congr 1;omega
   rw [h2];exact hx
theorem qFc {e : TypeId} {g : Nat} : ∀ (vs cs : List Value) (o : Nat) (w : World),Blk w g cs.toArray e → o + vs.length ≤ cs.length →
 Blk (w.setCells g o vs) g (cs.take o ++ vs ++ cs.drop (o + vs.length)).toArray e ∧ Chg [g] w (w.setCells g o vs)
 | [],cs,o,w,h,_=>by
  refine ⟨?_,Chg.refl _ _⟩
  show Blk w g _ e
  simpa using h
 | v :: vs,cs,o,w,h,hl=>by
  have h1 : Blk (w.setCell ⟨g,o,none⟩ v) g (cs.set o v).toArray e:=by simpa using h.set o v
  simp only [List.length_cons] at hl
  obtain ⟨h2,h3⟩:=qFc vs (cs.set o v) (o + 1) (w.setCell ⟨g,o,none⟩ v) h1 (by rw [List.length_set];omega)
  refine ⟨?_,((Chg.refl [g] w).set (by simp) o v).trans h3⟩
  have e1 : (cs.set o v).take (o + 1) ++ vs ++ (cs.set o v).drop (o + 1 + vs.length) = cs.take o ++ (v :: vs) ++ cs.drop (o + (v :: vs).length):=by
   rw [List.take_succ_eq_append_getElem (by rw [List.length_set];omega),List.getElem_set_self,List.take_set_of_le qle,List.drop_set_of_lt (by omega),List.length_cons,show o + 1 + vs.length = o + (vs.length + 1) by omega]
   simp
  rw [← e1]
  exact h2
end Go.Proofs.YtdlgihbpiakebaaGreat
