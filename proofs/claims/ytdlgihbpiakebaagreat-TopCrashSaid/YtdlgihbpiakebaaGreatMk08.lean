import Derived.Test.YtdlgihbpiakebaaGreatMk05
import Derived.Laws.CopyRow
import Derived.Laws.IdiomCopy
set_option maxRecDepth 100000
set_option maxHeartbeats 4000000
namespace Go.Proofs.YtdlgihbpiakebaaGreat
open Go Go.RowKit
section
variable {P:Program} {w:World} {t e e' bytes g off dl dc m:Nat} {z u:Value} {D S:List Value}
theorem qCn (T:SlT P t e 1 bytes z)(ty:TypeId)(hB:Blk w g D.toArray e')(hu:Sl w u m S)(hm:S.length=m)(h1:∀u∈S,u.oneCell'=true)(hfit:off+min m dl≤D.length) :
 ∃w',(Builtin.copy_ #[t,t] ty #[.slice (some ⟨g,off,none⟩) dl dc,u]).run P w= .ok (.int .i64 (min m dl:Nat)) w'∧Blk w' g (D.take off++S.take (min m dl)++D.drop (off+min m dl)).toArray e'∧Chg [g] w w':=by
 obtain⟨i,F,J,I,N⟩:=T.info
 have c:(P.info? e).map (·.size)=some 1:=by rw[F];simp[I]
 obtain⟨G,l,rfl⟩:=hu.len
 by_cases h:min m dl=0
 · refine⟨w,?_,?_,Chg.refl _ _⟩
   · have:=run_copy_none (P:=P) w t t ty e (some ⟨g,off,none⟩) G dl dc m l T.under c h
     rw[h];exact this
   · rw[h];simpa using hB
 · rcases hu with ⟨e1,rfl,rfl⟩|⟨a,cap,e1,h2,h3,h4⟩
   · simp at h
   · cases e1
     have hl:(S.take (min m dl)).length=min m dl:=by rw[List.length_take,hm];omega
     have:=run_copy_row (P:=P) w t t ty e g off dl dc a m l D.toArray e' (S.take (min m dl)) T.under c hB (by rw[hl])
      (fun j v f=>h4 j v (by rw[List.getElem?_take]at f;split at f;exact f;cases f)) (by rw[hl];simpa using hfit) (fun v q=>h1 v (List.mem_of_mem_take q))
     rw[hl]at this
     refine⟨_,this,?_,?_⟩
     · exact setRow_heap w g _ _ e' (0,0) hB
     · exact⟨rfl,rfl,rfl,by simp,fun k _ hn=>setRow_other w g k _ (fun e=>hn (by rw[e];simp))⟩
variable {ops:Array Oper} {rest:List Oper} {o:Oper} {a:Act} {Q:Exit→Act→World→Prop}
theorem qIF (T:SlT P t e 1 bytes z){d x:Operand}(hgd:o.guard=none)(ho:o.op= .call { callee:=.builtin .copy,args:=#[d,x],argTypes:=#[t,t] })
 (hd:a.eval d= .slice (some ⟨g,off,none⟩) dl dc) (hx:a.eval x=u) (hB:Blk w g D.toArray e') (hu:Sl w u m S) (hm:S.length=m) (h1:∀u∈S,u.oneCell'=true) (hfit:off+min m dl≤D.length)
 (h:∀w',Blk w' g (D.take off++S.take (min m dl)++D.drop (off+min m dl)).toArray e'→Chg [g] w w'→wpList P ops Q rest (a.put o.dst (.int .i64 (min m dl:Nat))) w'):wpList P ops Q (o::rest) a w:=
 wpList_plain hgd fun _ c=>by
  obtain⟨w',j,l,f⟩:=qCn (P:=P) (w:=w) (dc:=dc) T o.type hB hu hm h1 hfit
  unfold Oper.wp execOp
  simp only[ho,resolve,invoke,builtin,Sem.run_bind,Sem.run_pure,Result.andThen_ok,List.map_toArray,List.map_cons,List.map_nil,hd,hx,j]
  exact c _ _ (h w' l f)
end
end Go.Proofs.YtdlgihbpiakebaaGreat
