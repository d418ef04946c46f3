import Derived.Test.YtdlgihbpiakebaaGreatMd17
import Derived.Lib.AppendZerosOnto
set_option maxRecDepth 100000
set_option maxHeartbeats 4000000
namespace Go.Proofs.YtdlgihbpiakebaaGreat
open Go Go.RowKit Tryz
theorem qEU {P : Program} {w w' : World} {ops : Array Oper} {rest : List Oper} {o : Oper} {a : Act} {Q : Exit → Act → World → Prop} {t u : TypeId} {s x : Operand} (hgd : o.guard = none) (ho : o.op = .call { callee:=.builtin .append,args:=#[s,x],argTypes:=#[t,u] })
 {v1 v2 v : Value} (hs : a.eval s = v1) (hx : a.eval x = v2) (hr : (Builtin.append_ #[t,u] o.type #[v1,v2]).run P w = .ok v w') (h : wpList P ops Q rest (a.put o.dst v) w') : wpList P ops Q (o :: rest) a w :=
 wpList_plain hgd fun _ hK=>by
  unfold Oper.wp execOp
  simp only [ho,resolve,invoke,builtin,Sem.run_bind,Sem.run_pure,Result.andThen_ok,List.map_toArray,List.map_cons,List.map_nil,hs,hx,hr]
  exact hK _ _ h
theorem qMh {w : World} {g cap : Nat} {e : TypeId} {cs : Array Value} (h : Blk w g cs e) (hs : cs.size = cap * 1) (hc : cap ≤ maxLen) {base : Nat} (hb : base ≤ g) : w.ownsRow base e 1 (.slice (some ⟨g,0,none⟩) 0 cap) 0 (qA1 []) :=
 ⟨rfl,.inr ⟨g,cap,cs,rfl,hb,h,Nat.zero_le _,hc,hs,rfl⟩⟩
theorem qOe (n : Nat) (hn : n ≤ 100000) (w : World) : Calls prog 132 #[.slice none 0 0,.int .i64 n] w fun e w'=>∃ r,e = .returned r ∧ w'.ownsRow w.heap.size 5 1 r 0 (qA1 []) ∧ qA4 w w':=by
 have i0 : (n : Int) ≤ 100000:=by omega
 by_cases h0 : n = 0
 · subst h0
   go_enter func132,ntmps132
   go_wp2
   go_ret
   exact ⟨_,rfl,World.ownsRow_nil _ _ _ _,Below.refl _ _⟩
 · obtain ⟨i,hi,hz,hs,hb⟩:=qAw.info
   have hfit:=growslice_fits (need:=n) (old:=0) (bytes:=i.bytes) (by omega) (by rw [hb];omega)
   have happ:=fun ty=>Lib.run_append_grow_zeros (P:=prog) w 32 3 ty 5 i (.int .u8 0) .i64 .i64 underlying32 underlying3 hi hz none 0 0 [] (run_firstCells_none (P:=prog) w.drew i.size 0 0 0)
    n (by omega) (by rw [hs];omega) (by omega) (by omega) (by rw [hb];omega) (by simpa using hfit)
   simp only [Nat.zero_add] at happ
   have hG1:=grownCap_ge w n 0 5
   have hG2:=grownCap_le_maxLen w n 0 5 (by unfold maxLen;omega)
   generalize grownCap w n 0 5 = G at happ hG1 hG2
   have n1 : (0 : Int) < (n : Int):=by omega
   have n2 : (G : Int) ≤ 9223372036854775807:=by unfold maxLen at hG2;omega
   have n3 : (n : Int) ≤ (G : Int):=by omega
   clear hi hz hs hb hfit h0
   go_enter func132,ntmps132
   go_wp2_with (at_builtin;refine qEU (by rfl) (by rfl) (by rfl) (by rfl) (happ _) ?_)
   go_ret
   refine ⟨_,rfl,qMh (Blk.new w.drew _ _) ?_ hG2 qle,(Below.refl _ w).drew.alloc qle _⟩
   simp [Builtin.zeroCells]
   omega
theorem qCb (v : Value) (rows : List (List UInt8)) (hn : rows.length ≤ 1000) (hl : rows.flatten.length ≤ 70000) (w : World) (h : qBE w v rows) :
 Calls prog 91 #[v] w fun e w'=>∃ r,e = .returned r ∧ w'.ownsRow w.heap.size 5 1 r rows.flatten.length (qA1 rows.flatten) ∧ qA4 w w':=by
 obtain ⟨us,u1,u2,u3⟩:=h
 obtain ⟨a,c,hv⟩:=u2.len
 subst hv
 have i0 : (rows.length : Int) ≤ 1000:=by omega
 have U1:=qh u1
 clear u1
 go_enter func91,ntmps91
 go_wp2_with fail
 go_loopw [3,5,11] (fun s _ i wr=>∃ k : Nat,k ≤ rows.length ∧ i = .int .i64 k ∧ s = .int .i64 ((rows.take k).flatten.length : Nat) ∧ w = wr) (fun _ _ i _=>rows.length - (intOf i).toNat)
 case atStart=>exact ⟨0,by omega,rfl,by simp,rfl⟩
 case round =>
  obtain ⟨k,hk,rfl,rfl,rfl⟩:=hrel
  by_cases hlt : k < rows.length
  · obtain ⟨bA,oA,cA,eA,_,_,lA,xA⟩:=u2.at (by rw [U1.out];omega)
    cases eA
    obtain ⟨u,hu⟩ : ∃ u,us[k]? = some u:=⟨us[k]'(by rw [U1.out];exact hlt),by simp [U1.out,hlt]⟩
    obtain ⟨row,hr⟩ : ∃ row,rows[k]? = some row:=⟨rows[k],by simp⟩
    have cu:=xA k u hu
    have su:=u3 k row u hr hu
    obtain ⟨ua,uc,hue⟩:=su.len
    subst hue
    have n3 : (k : Int) < (rows.length : Int):=by omega
    have n4 : (0 : Int) ≤ (k : Int):=by omega
    have hle:=qDi rows (k + 1)
    have hfl:=qCN rows k row hr
    have hfn : ((rows.take (k + 1)).flatten.length : Int) = ((rows.take k).flatten.length : Int) + (row.length : Int):=by rw [hfl,List.length_append];omega
    obtain ⟨m,hm⟩ : ∃ m,m = (rows.take k).flatten.length:=⟨_,rfl⟩
    have hm9 : m + row.length ≤ 70000:=by rw [hm];have:=congrArg List.length hfl;rw [List.length_append] at this;omega
    rw [← hm] at hfn ⊢
    have n5 : (m : Int) + (row.length : Int) ≤ 70000:=by omega
    have n6 : (0 : Int) ≤ (m : Int) + (row.length : Int):=by omega
    have HM:=qh hm
    have HU:=qh hu
    have HR:=qh hr
    have HF:=qh hfn
    have XA:=qh xA
    have U3:=qh u3
    clear hm hu hr hfl xA hfn hle u3
    go_wp2
    exact ⟨⟨k + 1,by omega,by go_num,by rw [HF.out],trivial⟩,by simp [intOf];omega⟩
  · have : k = rows.length:=by omega
    subst this
    rw [List.take_length]
    obtain ⟨m,hm⟩ : ∃ m,m = rows.flatten.length:=⟨_,rfl⟩
    rw [← hm] at hl ⊢
    have HM:=qh hm
    have U3:=qh u3
    clear hm u3
    go_wp2_with fail
    refine (qOe m (by omega) _).mono ?_
    rintro e w1 ⟨r0,rfl,hown,hk1⟩
    go_wp2_with fail
    go_loopw [6,8,27] (fun v _ i wr=>∃ k : Nat,k ≤ rows.length ∧ i = .int .i64 k ∧ wr.ownsRow w.heap.size 5 1 v (rows.take k).flatten.length (qA1 (rows.take k).flatten) ∧ qA4 w wr) (fun _ _ i _=>rows.length - (intOf i).toNat)
    case atStart=>exact ⟨0,by omega,rfl,hown,hk1⟩
    case round =>
     obtain ⟨k,hk',rfl,hown2,hkw⟩:=hrel
     have hsz:=hkw.size
     by_cases hlt2 : k < rows.length
     · obtain ⟨bA,oA,cA,eA,_,_,lA,xA⟩:=u2.at (by rw [U1.out];omega)
       cases eA
       obtain ⟨u,hu⟩ : ∃ u,us[k]? = some u:=⟨us[k]'(by rw [U1.out];exact hlt2),by simp [U1.out,hlt2]⟩
       obtain ⟨row,hr⟩ : ∃ row,rows[k]? = some row:=⟨rows[k],by simp⟩
       have cu:=hkw.at (xA k u hu)
       have su:=(U3.out k row u hr hu).kept hkw
       have n3 : (k : Int) < (rows.length : Int):=by omega
       have n4 : (0 : Int) ≤ (k : Int):=by omega
       have hle:=qDi rows (k + 1)
       have hfl:=qCN rows k row hr
       rw [← HM.out,hfl,List.length_append] at hle
       have XA:=qh xA
       have HU:=qh hu
       have HR:=qh hr
       have HF:=qh hfl
       clear xA hu hr hfl hown
       go_wp2_with (at_builtin;refine qAv qAw rfl (by rfl) (by rfl) (by rfl) hown2 su (by simp [qA1]) (qAI row) (by unfold maxLen;omega) (by omega) (by omega) ?_;intro v3 w5 hown3 hg2 hat2)
       refine ⟨⟨k + 1,by omega,by go_num,?_,qAD hkw hown2 hg2 (by omega)⟩,by simp [intOf];omega⟩
       rw [HF.out,List.length_append,qBf]
       exact hown3
     · have : k = rows.length:=by omega
       subst this
       rw [List.take_length] at hown2
       clear hown
       go_wp2
       go_ret
       exact ⟨_,rfl,by rw [HM.out];exact hown2,hkw⟩
end Go.Proofs.YtdlgihbpiakebaaGreat
