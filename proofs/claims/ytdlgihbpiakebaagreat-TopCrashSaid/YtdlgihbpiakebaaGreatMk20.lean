import Derived.Test.YtdlgihbpiakebaaGreatMk17
import Derived.Lib.AppendZerosOnto
set_option maxRecDepth 100000
set_option maxHeartbeats 4000000
namespace Go.Proofs.YtdlgihbpiakebaaGreat
open Go Go.RowKit Tryz
theorem qFc {P:Program}{w w':World}{ops:Array Oper}{rest:List Oper}{o:Oper}{a:Act}{Q:Exit→Act→World→Prop}{t u:TypeId}{s x:Operand}(hgd:o.guard=none)(ho:o.op= .call { callee:=.builtin .append,args:=#[s,x],argTypes:=#[t,u] })
 {v1 v2 v:Value} (hs:a.eval s=v1) (hx:a.eval x=v2) (hr:(Builtin.append_ #[t,u] o.type #[v1,v2]).run P w= .ok v w') (h:wpList P ops Q rest (a.put o.dst v) w'):wpList P ops Q (o::rest) a w:=
 wpList_plain hgd fun _ c=>by
  unfold Oper.wp execOp
  simp only[ho,resolve,invoke,builtin,Sem.run_bind,Sem.run_pure,Result.andThen_ok,List.map_toArray,List.map_cons,List.map_nil,hs,hx,hr]
  exact c _ _ h
theorem qNb {w:World}{g cap:Nat}{e:TypeId}{cs:Array Value}(h:Blk w g cs e)(hs:cs.size=cap*1)(hc:cap≤maxLen){base:Nat}(hb:base≤g):w.ownsRow base e 1 (.slice (some ⟨g,0,none⟩) 0 cap) 0 (qA1 []):=
 ⟨rfl,.inr ⟨g,cap,cs,rfl,hb,h,Nat.zero_le _,hc,hs,rfl⟩⟩
theorem qPa (n:Nat)(hn:n≤100000)(w:World):Calls prog 132 #[.slice none 0 0,.int .i64 n] w fun e w'=>∃r,e= .returned r∧w'.ownsRow w.heap.size 5 1 r 0 (qA1 [])∧qA4 w w':=by
 have O:(n:Int)≤100000:=by omega
 by_cases I:n=0
 · subst I
   go_enter func132,ntmps132
   go_wp2
   go_ret
   exact⟨_,rfl,World.ownsRow_nil _ _ _ _,Below.refl _ _⟩
 · obtain⟨i,J,F,q,l⟩:=qAx.info
   have f:=growslice_fits (need:=n) (old:=0) (bytes:=i.bytes) (by omega) (by rw[l];omega)
   have c:=fun ty=>Lib.run_append_grow_zeros (P:=prog) w 32 3 ty 5 i (.int .u8 0) .i64 .i64 underlying32 underlying3 J F none 0 0 [] (run_firstCells_none (P:=prog) w.drew i.size 0 0 0)
    n (by omega) (by rw[q];omega) (by omega) (by omega) (by rw[l];omega) (by simpa using f)
   simp only[Nat.zero_add]at c
   have j:=grownCap_ge w n 0 5
   have h:=grownCap_le_maxLen w n 0 5 (by unfold maxLen;omega)
   generalize grownCap w n 0 5=G at c j h
   have V:(0:Int)<(n:Int):=by omega
   have Y:(G:Int)≤9223372036854775807:=by unfold maxLen at h;omega
   have N:(n:Int)≤(G:Int):=by omega
   clear J F q l f I
   go_enter func132,ntmps132
   go_wp2_with (at_builtin;refine qFc (by rfl) (by rfl) (by rfl) (by rfl) (c _) ?_)
   go_ret
   refine⟨_,rfl,qNb (Blk.new w.drew _ _) ?_ h qle,(Below.refl _ w).drew.alloc qle _⟩
   simp[Builtin.zeroCells]
   omega
theorem qCj (v:Value)(rows:List (List UInt8))(hn:rows.length≤1000)(hl:rows.flatten.length≤70000)(w:World)(h:qBG w v rows) :
 Calls prog 91 #[v] w fun e w'=>∃r,e= .returned r∧w'.ownsRow w.heap.size 5 1 r rows.flatten.length (qA1 rows.flatten)∧qA4 w w':=by
 obtain⟨us,u1,u2,u3⟩:=h
 obtain⟨a,c,hv⟩:=u2.len
 subst hv
 have i0:(rows.length:Int)≤1000:=by omega
 have Z:=qh u1
 clear u1
 go_enter func91,ntmps91
 go_wp2_with fail
 go_loopw [3,5,11] (fun s _ i wr=>∃k:Nat,k≤rows.length∧i= .int .i64 k∧s= .int .i64 ((rows.take k).flatten.length:Nat)∧w=wr) (fun _ _ i _=>rows.length - (intOf i).toNat)
 case atStart=>exact⟨0,by omega,rfl,by simp,rfl⟩
 case round =>
  obtain⟨k,hk,rfl,rfl,rfl⟩:=hrel
  by_cases a0:k<rows.length
  · obtain⟨bA,oA,cA,eA,_,_,lA,N⟩:=u2.at (by rw[Z.out];omega)
    cases eA
    obtain⟨u,F⟩:∃u,us[k]? = some u:=⟨us[k]'(by rw[Z.out];exact a0),by simp[Z.out,a0]⟩
    obtain⟨row,G⟩:∃row,rows[k]? = some row:=⟨rows[k],by simp⟩
    have cu:=N k u F
    have su:=u3 k row u G F
    obtain⟨ua,uc,a1⟩:=su.len
    subst a1
    have n3:(k:Int)<(rows.length:Int):=by omega
    have n4:(0:Int)≤(k:Int):=by omega
    have O:=qDw rows (k+1)
    have j:=qCS rows k row G
    have V:((rows.take (k+1)).flatten.length:Int)=((rows.take k).flatten.length:Int)+(row.length:Int):=by rw[j,List.length_append];omega
    obtain⟨m,J⟩:∃m,m=(rows.take k).flatten.length:=⟨_,rfl⟩
    have a7:m+row.length≤70000:=by rw[J];have:=congrArg List.length j;rw[List.length_append]at this;omega
    rw[←J]at V ⊢
    have n5:(m:Int)+(row.length:Int)≤70000:=by omega
    have n6:(0:Int)≤(m:Int)+(row.length:Int):=by omega
    have HM:=qh J
    have HU:=qh F
    have HR:=qh G
    have HF:=qh V
    have XA:=qh N
    have U3:=qh u3
    clear J F G j N V O u3
    go_wp2
    exact⟨⟨k+1,by omega,by go_num,by rw[HF.out],trivial⟩,by simp[intOf];omega⟩
  · have:k=rows.length:=by omega
    subst this
    rw[List.take_length]
    obtain⟨m,J⟩:∃m,m=rows.flatten.length:=⟨_,rfl⟩
    rw[←J]at hl ⊢
    have HM:=qh J
    have U3:=qh u3
    clear J u3
    go_wp2_with fail
    refine(qPa m (by omega) _).mono ?_
    rintro e w1 ⟨r0,rfl,q,a3⟩
    go_wp2_with fail
    go_loopw [6,8,27] (fun v _ i wr=>∃k:Nat,k≤rows.length∧i= .int .i64 k∧wr.ownsRow w.heap.size 5 1 v (rows.take k).flatten.length (qA1 (rows.take k).flatten)∧qA4 w wr) (fun _ _ i _=>rows.length - (intOf i).toNat)
    case atStart=>exact⟨0,by omega,rfl,q,a3⟩
    case round =>
     obtain⟨k,a6,rfl,f,l⟩:=hrel
     have a5:=l.size
     by_cases I:k<rows.length
     · obtain⟨bA,oA,cA,eA,_,_,lA,N⟩:=u2.at (by rw[Z.out];omega)
       cases eA
       obtain⟨u,F⟩:∃u,us[k]? = some u:=⟨us[k]'(by rw[Z.out];exact I),by simp[Z.out,I]⟩
       obtain⟨row,G⟩:∃row,rows[k]? = some row:=⟨rows[k],by simp⟩
       have cu:=l.at (N k u F)
       have su:=(U3.out k row u G F).kept l
       have n3:(k:Int)<(rows.length:Int):=by omega
       have n4:(0:Int)≤(k:Int):=by omega
       have O:=qDw rows (k+1)
       have j:=qCS rows k row G
       rw[←HM.out,j,List.length_append]at O
       have XA:=qh N
       have HU:=qh F
       have HR:=qh G
       have HF:=qh j
       clear N F G j q
       go_wp2_with (at_builtin;refine qAw qAx rfl (by rfl) (by rfl) (by rfl) f su (by simp[qA1]) (qAP row) (by unfold maxLen;omega) (by omega) (by omega) ?_;intro v3 w5 Y a2 a4)
       refine⟨⟨k+1,by omega,by go_num,?_,qAF l f a2 (by omega)⟩,by simp[intOf];omega⟩
       rw[HF.out,List.length_append,qBk]
       exact Y
     · have:k=rows.length:=by omega
       subst this
       rw[List.take_length]at f
       clear q
       go_wp2
       go_ret
       exact⟨_,rfl,by rw[HM.out];exact f,l⟩
end Go.Proofs.YtdlgihbpiakebaaGreat
