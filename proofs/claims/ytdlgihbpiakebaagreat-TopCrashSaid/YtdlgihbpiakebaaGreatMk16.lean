import Derived.Test.YtdlgihbpiakebaaGreatMk04
import Derived.Test.YtdlgihbpiakebaaGreatMk05
import Derived.Test.YtdlgihbpiakebaaGreatMk15
set_option maxRecDepth 100000
set_option maxHeartbeats 4000000
namespace Go.Proofs.YtdlgihbpiakebaaGreat
open Go Go.RowKit Go.ChangeShapes Go.WideShapes Go.ChangeAt
theorem qK2 {P:Program}{t e size bytes:Nat}{z:Value}(T:SlT P t e size bytes z):P.underlying t=some (.slice (P.elem t))∧P.elem t=e:=by
 have h:=T.under
 have c:P.elem t=e:=by simp[Program.elem,h]
 exact⟨by rw[c];exact h,c⟩
theorem qDv {P:Program}{t e size bytes:Nat}{z:Value}(T:SlT P t e size bytes z)(w:World):(sizeOf (P.elem t)).run P w= .ok size w:=by
 obtain⟨i,c,_,f,_⟩:=T.info
 rw[(qK2 T).2]
 simp[sizeOf,typeInfo,c,f]
section
variable {P:Program} {w:World} {t e bytes:Nat} {z:Value} {v:Value} {n k:Nat} {cs:List Value}
theorem qLR (T:SlT P t e 1 bytes z)(h:Sl w v n cs)(hk:k≤n)(kk:IntKind) :
 ∃v',(∀w:World,(Instr.slice t v none (some (.int kk (k:Int))) none).run P w= .ok v' w)∧Sl w v' k (cs.take k):=by
 obtain⟨f,l⟩:=qK2 T
 rcases h with ⟨rfl,rfl,rfl⟩|⟨a,cap,rfl,h1,h2,h4⟩
 · obtain rfl:k=0:=by omega
   exact⟨.slice none 0 0,fun w=>by rw[run_slice_h (P:=P) w t none 0 0 f kk ((0:Nat):Int) (by omega) (by omega),qDv T];simp[sliced],by simpa using Sl.nil w⟩
 · refine⟨.slice (some a) k cap,?_,?_⟩
   · intro w;rw[run_slice_h (P:=P) w t (some a) n cap f kk k (by omega) (by omega),qDv T]
     simp only[Result.andThen_ok,sliced,Nat.zero_mul,Option.map_some,Nat.sub_zero,Int.toNat_natCast]
     split<;>simp[Addr.add_zero']
   · refine .inr ⟨a,cap,rfl,by omega,h2,fun j u c=>h4 j u ?_⟩
     rw[List.getElem?_take]at c
     split at c
     · exact c
     · cases c
theorem qIJ (T:SlT P t e 1 bytes z)(h:Sl w v n cs)(hk:k≤n)(hl:cs.length=n)(kk:IntKind) :
 ∃v',(∀w:World,(Instr.slice t v (some (.int kk (k:Int))) none none).run P w= .ok v' w)∧Sl w v' (n - k) (cs.drop k):=by
 obtain⟨l,G⟩:=qK2 T
 rcases h with ⟨rfl,rfl,rfl⟩|⟨a,cap,rfl,f,q,h4⟩
 · obtain rfl:k=0:=by omega
   exact⟨.slice none 0 0,fun w=>by rw[run_slice_l (P:=P) w t none 0 0 l kk ((0:Nat):Int) (by omega) (by omega),qDv T];simp[sliced],by simpa using Sl.nil w⟩
 · by_cases F:cap=k
   · refine⟨.slice (some a) (n - k) (cap - k),?_,?_⟩
     · intro w;rw[run_slice_l (P:=P) w t (some a) n cap l kk k (by omega) (by omega),qDv T]
       simp[sliced,F]
     · have:cs.drop k= []:=List.drop_of_length_le (by omega)
       rw[this]
       exact .inr ⟨a,cap - k,rfl,by omega,by omega,fun j u c=>by cases c⟩
   · refine⟨.slice (some (a.add k)) (n - k) (cap - k),?_,?_⟩
     · intro w;rw[run_slice_l (P:=P) w t (some a) n cap l kk k (by omega) (by omega),qDv T]
       simp[sliced,F]
     · refine .inr ⟨a.add k,cap - k,rfl,by omega,by omega,fun j u c=>?_⟩
       rw[List.getElem?_drop]at c
       have:=h4 (k+j) u c
       have e:(a.add k).add j=a.add (k+j):=by
        unfold Addr.add
        by_cases f:k=0
        · subst f;simp
        · by_cases q:j=0
          · subst q;simp
          · simp[f,q,Nat.add_assoc]
       rw[e];exact this
theorem qEc (bs:List UInt8)(k:Nat):(qA1 bs).take k=qA1 (bs.take k):=by simp[qA1]
theorem qEd (bs:List UInt8)(k:Nat):(qA1 bs).drop k=qA1 (bs.drop k):=by simp[qA1]
theorem qS6 (T:SlT P t e 1 bytes z){bs:List UInt8}(h:Sl w v bs.length (qA1 bs))(hk:k≤bs.length)(kk:IntKind) :
 ∃v',(∀w:World,(Instr.slice t v none (some (.int kk (k:Int))) none).run P w= .ok v' w)∧Sl w v' (bs.take k).length (qA1 (bs.take k)):=by
 obtain⟨v',c,f⟩:=qLR T h hk kk
 refine⟨v',c,?_⟩
 rw[qEc]at f
 rwa [List.length_take,Nat.min_eq_left hk]
theorem qL1 (T:SlT P t e 1 bytes z){bs:List UInt8}(h:Sl w v bs.length (qA1 bs))(hk:k≤bs.length)(kk:IntKind) :
 ∃v',(∀w:World,(Instr.slice t v (some (.int kk (k:Int))) none none).run P w= .ok v' w)∧Sl w v' (bs.drop k).length (qA1 (bs.drop k)):=by
 obtain⟨v',c,f⟩:=qIJ T h hk (qA7 bs) kk
 refine⟨v',c,?_⟩
 rw[qEd]at f
 rwa [List.length_drop]
end
def qBg (zs:List Int):List Value:=zs.map (Value.int .i64)
theorem qLS (zs:List Int)(k:Nat)(h:k<zs.length):(qBg zs)[k]? = some (.int .i64 zs[k]):=by simp[qBg,h]
theorem Sl.int {w:World}{v:Value}{zs:List Int}(h:Sl w v zs.length (qBg zs))(hc:0<zs.length):∃b off cap,v= .slice (some ⟨b,off,none⟩) zs.length cap∧zs.length≤cap∧cap≤maxLen∧b<w.heap.size∧∀k (c:k<zs.length),w.cell? ⟨b,off+k,none⟩=some (.int .i64 zs[k]):=by
 obtain⟨b,off,cap,j,F,q,f,l⟩:=h.at (by simpa [qBg] using hc)
 exact⟨b,off,cap,j,F,q,f,fun k c=>l k _ (qLS zs k c)⟩
theorem qCS (rows:List (List UInt8))(k:Nat)(row:List UInt8)(h:rows[k]? = some row):(rows.take (k+1)).flatten=(rows.take k).flatten++row:=by
 obtain⟨c,e⟩:=List.getElem?_eq_some_iff.1 h
 rw[List.take_succ_eq_append_getElem c,List.flatten_append,e]
 simp
theorem qDw (rows:List (List UInt8))(k:Nat):(rows.take k).flatten.length≤rows.flatten.length:=by
 have:=congrArg (fun l=>(List.flatten l).length) (List.take_append_drop k rows)
 simp only[List.flatten_append,List.length_append]at this
 omega
def qBG (w:World)(v:Value)(rows:List (List UInt8)):Prop:=
 ∃us:List Value,us.length=rows.length∧Sl w v rows.length us∧∀(i:Nat) (bs:List UInt8) (u:Value),rows[i]? = some bs→us[i]? = some u→Sl w u bs.length (qA1 bs)
def qBx (T E:TypeId)(w:World)(B:Nat)(v:Value)(rows:List (List UInt8)):Prop:=
 ∃us:List Value,us.length=rows.length∧w.ownsRow B T 1 v rows.length us∧(∀u∈us,u.oneCell'=true)∧∀(i:Nat) (bs:List UInt8) (u:Value),rows[i]? = some bs→us[i]? = some u→w.ownsRow B E 1 u bs.length (qA1 bs)
theorem qD5 {w:World}{B e size n:Nat}{v:Value}{xs:List Value}(h:w.ownsRow B e size v n xs):v.oneCell'=true:=by
 rcases h.2 with ⟨rfl,_⟩|⟨g,c,cur,rfl,_⟩<;>rfl
def qEx (w:World):List Value→List (List UInt8)→Prop
 | [],[]=>True
 | u::us,r::rs=>Sl w u r.length (qA1 r)∧qEx w us rs
 | _,_=>False
theorem qEx.nil {w:World}:qEx w [] []:=trivial
theorem qEx.cons {w:World}{u:Value}{r:List UInt8}{us:List Value}{rs:List (List UInt8)}(h:Sl w u r.length (qA1 r))(k:qEx w us rs):qEx w (u::us) (r::rs):=⟨h,k⟩
theorem qEx.len {w:World}:∀ {us:List Value} {rows:List (List UInt8)},qEx w us rows→us.length=rows.length
 | [],[],_=>rfl
 | u::us,r::rs,h=>by simp[qEx.len h.2]
 | [],_::_,h=>h.elim
 | _::_,[],h=>h.elim
theorem qEx.get {w:World}:∀ {us:List Value} {rows:List (List UInt8)},qEx w us rows→∀(i:Nat) (bs:List UInt8) (u:Value),rows[i]? = some bs→us[i]? = some u→Sl w u bs.length (qA1 bs)
 | [],[],_,i,bs,u,h,_=>by simp at h
 | u::us,r::rs,h,0,bs,u',h1,h2=>by simp at h1 h2;subst h1 h2;exact h.1
 | u::us,r::rs,h,i+1,bs,u',h1,h2=>qEx.get h.2 i bs u' (by simpa using h1) (by simpa using h2)
 | [],_::_,h,_,_,_,_,_=>h.elim
 | _::_,[],h,_,_,_,_,_=>h.elim
theorem qBG.lit {w:World}{us:List Value}{rows:List (List UInt8)}(h:qEx w us rows)(T:TypeId)(n:Nat)(hn:rows.length=n)(hm:n≤maxLen):qBG (w.alloc (.cells us.toArray T)) (.slice (some ⟨w.heap.size,0,none⟩) n n) rows:=by
 subst hn
 refine⟨us,h.len,Sl.lit w us.toArray T rows.length hm,fun i bs u c f=>(h.get i bs u c f).kept (qal _)⟩
theorem qBG.all {w:World}{v:Value}{rows:List (List UInt8)}(h:qBG w v rows):∃us,Sl w v rows.length us∧qEx w us rows:=by
 obtain⟨us,c,j,f⟩:=h
 refine⟨us,j,?_⟩
 clear j
 induction rows generalizing us with
 | nil =>
  match us,c with
  | [],_=>trivial
 | cons r rs ih =>
  match us,c with
  | u::us,c =>
   exact⟨f 0 r u rfl rfl,ih us (by simpa using c) fun i bs x q l=>f (i+1) bs x (by simpa using q) (by simpa using l)⟩
section
variable {T E:TypeId} {w w':World} {B:Nat} {v:Value} {rows:List (List UInt8)}
theorem qBG.kept (h:qBG w v rows)(hb:qA4 w w'):qBG w' v rows:=by
 obtain⟨us,f,q,l⟩:=h
 exact⟨us,f,q.kept hb,fun i bs u j c=>(l i bs u j c).kept hb⟩
theorem qBx.sl (h:qBx T E w B v rows):qBG w v rows:=by
 obtain⟨us,f,q,_,l⟩:=h
 exact⟨us,f,Sl.of_own q,fun i bs u j c=>Sl.of_own (l i bs u j c)⟩
theorem qBx.empty (h:w.ownsRow B T 1 v 0 []):qBx T E w B v []:=⟨[],rfl,h,(fun u h=>by cases h),fun i bs u h=>by simp at h⟩
theorem qEy {n m:Nat}{u:Value}{xs ys:List Value}{B' s s':Nat}(h:w.ownsRow B E s u n xs)(hv:w.ownsRow B' T s' v m ys)(hne:E≠T)(hg:w.grownBy w' v.ownBlock):w'.ownsRow B E s u n xs:=by
 obtain⟨hl,h⟩:=h
 refine⟨hl,?_⟩
 rcases h with h|⟨g,cap,cur,rfl,hbg,hgg,hn,hc,hs,ht⟩
 · exact .inl h
 · refine .inr ⟨g,cap,cur,rfl,hbg,?_,hn,hc,hs,ht⟩
   refine(hg.block g (Array.getElem?_eq_some_iff.1 hgg).1 ?_).trans hgg
   intro e
   rcases hv.2 with ⟨rfl,_⟩|⟨g',cap',cur',rfl,_,hg',_⟩
   · cases e
   · simp[Value.ownBlock]at e
     subst e
     rw[hgg]at hg'
     cases hg'
     exact hne rfl
theorem qBx.snoc {us:List Value}{u v':Value}{bs:List UInt8}(hlen:us.length=rows.length)(h:w.ownsRow B T 1 v rows.length us)(hone:∀u∈us,u.oneCell'=true)
 (hin:∀(i:Nat) (bs:List UInt8) (u:Value),rows[i]? = some bs→us[i]? = some u→w.ownsRow B E 1 u bs.length (qA1 bs))
 (hu:w.ownsRow B E 1 u bs.length (qA1 bs)) (hne:E≠T) (hg:w.grownBy w' v.ownBlock) (h':w'.ownsRow B T 1 v' (rows.length+1) (us++ [u])):qBx T E w' B v' (rows++ [bs]):=by
 refine⟨us++ [u],by simp[hlen],by simpa using h',?_,?_⟩
 · intro x f
   rcases List.mem_append.1 f with f|f
   · exact hone x f
   · rw[List.mem_singleton.1 f];exact qD5 hu
 · intro i l F j c
   by_cases q:i<rows.length
   · rw[List.getElem?_append_left q]at j
     rw[List.getElem?_append_left (by omega)]at c
     exact qEy (hin i l F j c) h hne hg
   · have e:i=rows.length:=by
      have:=(List.getElem?_eq_some_iff.1 j).1
      simp at this;omega
     subst e
     simp at j
     rw[←hlen]at c
     simp at c
     subst j c
     exact qEy hu h hne hg
end
end Go.Proofs.YtdlgihbpiakebaaGreat
namespace Go.Proofs.YtdlgihbpiakebaaGreat
def qFS:List UInt8→List Int→Option (List (List UInt8))
 | b,[]=>if b= [] then some [] else none
 | b,z::zs=>if 0≤z∧z≤b.length then(qFS (b.drop z.toNat) zs).map (b.take z.toNat:: ·) else none
theorem qN7 {b0 b:List UInt8}{zs:List Int}{pre:List (List UInt8)}{k:Nat}(hk:k<zs.length)(h:qFS b0 zs=(qFS b (zs.drop k)).map (pre++ ·))(h0:0≤zs[k])(h1:zs[k]≤b.length) :
 qFS b0 zs=(qFS (b.drop zs[k].toNat) (zs.drop (k+1))).map ((pre++ [b.take zs[k].toNat])++ ·):=by
 rw[h,List.drop_eq_getElem_cons hk,qFS,if_pos ⟨h0,h1⟩,Option.map_map]
 congr 1
 funext r
 simp
theorem qIK {b0 b:List UInt8}{zs:List Int}{pre:List (List UInt8)}{k:Nat}(hk:k<zs.length)(h:qFS b0 zs=(qFS b (zs.drop k)).map (pre++ ·))(h0:¬(0≤zs[k]∧zs[k]≤b.length)):qFS b0 zs=none:=by
 rw[h,List.drop_eq_getElem_cons hk,qFS,if_neg h0];rfl
theorem qP9 {b0 b:List UInt8}{zs:List Int}{pre:List (List UInt8)}(h:qFS b0 zs=(qFS b (zs.drop zs.length)).map (pre++ ·)):qFS b0 zs=if b= [] then some pre else none:=by
 rw[h,List.drop_length,qFS]
 split<;>simp
end Go.Proofs.YtdlgihbpiakebaaGreat
