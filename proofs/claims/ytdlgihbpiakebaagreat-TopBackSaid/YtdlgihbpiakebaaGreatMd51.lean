import Derived.Test.YtdlgihbpiakebaaGreatMd28
import Derived.Test.YtdlgihbpiakebaaGreatMd32
import Derived.Test.YtdlgihbpiakebaaGreatMd50
set_option maxRecDepth 100000
set_option maxHeartbeats 4000000
namespace Go.Proofs.YtdlgihbpiakebaaGreat
open Go Go.RowKit Tryz
section
variable {P : Program} {T kt et : TypeId}
theorem qGc {d : TypeDesc} (ht : P.underlying T = some (.map kt et)) (hk : P.underlying kt = some d) (es : Array MapEntry) (c : Nat) (k : Int) (v : Value) (hik : MapKept.IsKey d (.int .i64 k)) (hne : Instr.findNow d (.int .i64 k) es.toList 0 = some none) (w : World) :
 (Instr.mapUpdate T (.map (some w.heap.size)) (.int .i64 k) v).run P (w.alloc (.map es c)) = .ok () (w.alloc (.map (es.push ⟨.int .i64 k,v,c⟩) (c + 1))):=by
 have hb : (w.alloc (.map es c)).heap[w.heap.size]? = some (.map es c):=by
  show (w.heap.push _)[w.heap.size]? = _
  simp
 have hs : ∀ o,({ (w.alloc (.map es c)) with heap:=(w.alloc (.map es c)).heap.setIfInBounds w.heap.size o } : World) = w.alloc o:=fun o=>by
  show ({ w with heap:=(w.heap.push _).setIfInBounds w.heap.size o } : World) = { w with heap:=w.heap.push o }
  have : (w.heap.push (.map es c)).setIfInBounds w.heap.size o = w.heap.push o:=by apply Array.ext';simp
  rw [this]
 have hck:=fun (x : World) e n=>MapKept.run_checkKey (w:=x) hk hik e n
 simp [Instr.mapUpdate,run_underlying ht,MapKept.run_getObj_map hb,hck _ _ 9999,MapKept.run_findKey hk hne,MapKept.run_setObj_map _ hb,Result.andThen]
 exact hs _
theorem qEH {d : TypeDesc} (ht : P.underlying T = some (.map kt et)) (hk : P.underlying kt = some d) (es : Array MapEntry) (c : Nat) (k : Int) (i : Nat) (v : Value) (hik : MapKept.IsKey d (.int .i64 k)) (hne : Instr.findNow d (.int .i64 k) es.toList 0 = some (some (i,v))) (w : World) :
 (Instr.lookup T (.map (some w.heap.size)) (.int .i64 k) false).run P (w.alloc (.map es c)) = .ok v (w.alloc (.map es c)):=by
 have hb : (w.alloc (.map es c)).heap[w.heap.size]? = some (.map es c):=by
  show (w.heap.push _)[w.heap.size]? = _
  simp
 have hck:=fun (x : World) e n=>MapKept.run_checkKey (w:=x) hk hik e n
 simp [Instr.lookup,run_underlying ht,MapKept.run_getObj_map hb,hck _ _ 9999,MapKept.run_findKey hk hne,Result.andThen]
end
theorem qC1 : prog.underlying 163 = some (.map (prog.mapKeyOf 163) (prog.mapElemOf 163)):=by kernel_rfl
theorem qC2 : prog.underlying (prog.mapKeyOf 163) = some (.int .i64):=by kernel_rfl
def Bx.doC (b : Bx) (c : Cl) : (Int × List UInt8) × Bx :=
 if b.x.p.gone then ((7,[]),b) else if b.c.bad then ((4,[]),b) else if c.is = false then ((1,[]),b)
 else if c.kind = 1 then b.read c.lba
 else if c.kind = 2 then (((b.write c.lba c.data).1,[]),(b.write c.lba c.data).2)
 else if c.kind = 3 then ((b.commit.1,[]),b.commit.2)
 else if c.kind = 4 then (((b.discard c.lba).1,[]),(b.discard c.lba).2)
 else ((b.rotate.1,[]),b.rotate.2)
def qGy : Array MapEntry:=#[⟨.int .i64 1,(Value.func (.func 77) #[] #[]),0⟩,⟨.int .i64 2,(Value.func (.func 78) #[] #[]),1⟩,⟨.int .i64 3,(Value.func (.func 79) #[] #[]),2⟩,⟨.int .i64 4,(Value.func (.func 80) #[] #[]),3⟩,⟨.int .i64 5,(Value.func (.func 81) #[] #[]),4⟩]
theorem qGd (wx : World) : (Instr.mapUpdate 163 (.map (some wx.heap.size)) (.int .i64 1) (Value.func (.func 77) #[] #[])).run prog (wx.alloc (.map #[] 0)) = .ok () (wx.alloc (.map #[⟨.int .i64 1,(Value.func (.func 77) #[] #[]),0⟩] 1)):=by
 have:=qGc qC1 qC2 #[] 0 1 (Value.func (.func 77) #[] #[]) rfl rfl wx
 simp only [List.push_toArray,List.nil_append] at this
 exact this
theorem qGe (wx : World) : (Instr.mapUpdate 163 (.map (some wx.heap.size)) (.int .i64 2) (Value.func (.func 78) #[] #[])).run prog (wx.alloc (.map #[⟨.int .i64 1,(Value.func (.func 77) #[] #[]),0⟩] 1)) = .ok () (wx.alloc (.map #[⟨.int .i64 1,(Value.func (.func 77) #[] #[]),0⟩,⟨.int .i64 2,(Value.func (.func 78) #[] #[]),1⟩] 2)):=by
 have:=qGc qC1 qC2 #[⟨.int .i64 1,(Value.func (.func 77) #[] #[]),0⟩] 1 2 (Value.func (.func 78) #[] #[]) rfl rfl wx
 simp only [List.push_toArray,List.nil_append,List.cons_append] at this
 exact this
theorem qGf (wx : World) : (Instr.mapUpdate 163 (.map (some wx.heap.size)) (.int .i64 3) (Value.func (.func 79) #[] #[])).run prog (wx.alloc (.map #[⟨.int .i64 1,(Value.func (.func 77) #[] #[]),0⟩,⟨.int .i64 2,(Value.func (.func 78) #[] #[]),1⟩] 2)) = .ok () (wx.alloc (.map #[⟨.int .i64 1,(Value.func (.func 77) #[] #[]),0⟩,⟨.int .i64 2,(Value.func (.func 78) #[] #[]),1⟩,⟨.int .i64 3,(Value.func (.func 79) #[] #[]),2⟩] 3)):=by
 have:=qGc qC1 qC2 #[⟨.int .i64 1,(Value.func (.func 77) #[] #[]),0⟩,⟨.int .i64 2,(Value.func (.func 78) #[] #[]),1⟩] 2 3 (Value.func (.func 79) #[] #[]) rfl rfl wx
 simp only [List.push_toArray,List.nil_append,List.cons_append] at this
 exact this
theorem qGg (wx : World) : (Instr.mapUpdate 163 (.map (some wx.heap.size)) (.int .i64 4) (Value.func (.func 80) #[] #[])).run prog (wx.alloc (.map #[⟨.int .i64 1,(Value.func (.func 77) #[] #[]),0⟩,⟨.int .i64 2,(Value.func (.func 78) #[] #[]),1⟩,⟨.int .i64 3,(Value.func (.func 79) #[] #[]),2⟩] 3)) = .ok () (wx.alloc (.map #[⟨.int .i64 1,(Value.func (.func 77) #[] #[]),0⟩,⟨.int .i64 2,(Value.func (.func 78) #[] #[]),1⟩,⟨.int .i64 3,(Value.func (.func 79) #[] #[]),2⟩,⟨.int .i64 4,(Value.func (.func 80) #[] #[]),3⟩] 4)):=by
 have:=qGc qC1 qC2 #[⟨.int .i64 1,(Value.func (.func 77) #[] #[]),0⟩,⟨.int .i64 2,(Value.func (.func 78) #[] #[]),1⟩,⟨.int .i64 3,(Value.func (.func 79) #[] #[]),2⟩] 3 4 (Value.func (.func 80) #[] #[]) rfl rfl wx
 simp only [List.push_toArray,List.nil_append,List.cons_append] at this
 exact this
theorem qGh (wx : World) : (Instr.mapUpdate 163 (.map (some wx.heap.size)) (.int .i64 5) (Value.func (.func 81) #[] #[])).run prog (wx.alloc (.map #[⟨.int .i64 1,(Value.func (.func 77) #[] #[]),0⟩,⟨.int .i64 2,(Value.func (.func 78) #[] #[]),1⟩,⟨.int .i64 3,(Value.func (.func 79) #[] #[]),2⟩,⟨.int .i64 4,(Value.func (.func 80) #[] #[]),3⟩] 4)) = .ok () (wx.alloc (.map qGy 5)):=by
 have:=qGc qC1 qC2 #[⟨.int .i64 1,(Value.func (.func 77) #[] #[]),0⟩,⟨.int .i64 2,(Value.func (.func 78) #[] #[]),1⟩,⟨.int .i64 3,(Value.func (.func 79) #[] #[]),2⟩,⟨.int .i64 4,(Value.func (.func 80) #[] #[]),3⟩] 4 5 (Value.func (.func 81) #[] #[]) rfl rfl wx
 simp only [List.push_toArray,List.nil_append,List.cons_append] at this
 exact this
theorem qOR (wx : World) : (Instr.lookup 163 (.map (some wx.heap.size)) (.int .i64 1) false).run prog (wx.alloc (.map qGy 5)) = .ok (Value.func (.func 77) #[] #[]) (wx.alloc (.map qGy 5)):=qEH qC1 qC2 qGy 5 1 0 (Value.func (.func 77) #[] #[]) rfl rfl wx
theorem qOS (wx : World) : (Instr.lookup 163 (.map (some wx.heap.size)) (.int .i64 2) false).run prog (wx.alloc (.map qGy 5)) = .ok (Value.func (.func 78) #[] #[]) (wx.alloc (.map qGy 5)):=qEH qC1 qC2 qGy 5 2 1 (Value.func (.func 78) #[] #[]) rfl rfl wx
theorem qOT (wx : World) : (Instr.lookup 163 (.map (some wx.heap.size)) (.int .i64 3) false).run prog (wx.alloc (.map qGy 5)) = .ok (Value.func (.func 79) #[] #[]) (wx.alloc (.map qGy 5)):=qEH qC1 qC2 qGy 5 3 2 (Value.func (.func 79) #[] #[]) rfl rfl wx
theorem qOU (wx : World) : (Instr.lookup 163 (.map (some wx.heap.size)) (.int .i64 4) false).run prog (wx.alloc (.map qGy 5)) = .ok (Value.func (.func 80) #[] #[]) (wx.alloc (.map qGy 5)):=qEH qC1 qC2 qGy 5 4 3 (Value.func (.func 80) #[] #[]) rfl rfl wx
theorem qOV (wx : World) : (Instr.lookup 163 (.map (some wx.heap.size)) (.int .i64 5) false).run prog (wx.alloc (.map qGy 5)) = .ok (Value.func (.func 81) #[] #[]) (wx.alloc (.map qGy 5)):=qEH qC1 qC2 qGy 5 5 4 (Value.func (.func 81) #[] #[]) rfl rfl wx
theorem qRb {col : Nat → Nat} {w : World} {P : qAQ} {M C : Nat} {b : Bx} (h : qCG col w P M C b) (hg : b.x.p.gone = false) (hb : b.c.bad = false) (lba : Int) (a : Option Addr) (n c : Nat) (data : List UInt8) (hdl : data.length = n) (hn : n ≤ 1000000) (his : Cl.is ⟨1,lba,data⟩ = true) (E : Int) (D : List UInt8) (B : Bx)
 (CC : ∀ z,qA4 w z → Calls prog 77 #[.pointer (some ⟨C,0,none⟩),.agg #[.int .i64 1,.int .i64 lba,.slice a n c]] z fun e w'=>∃ v col',e = .returned (.agg #[.int .i64 E,v]) ∧ qC0 col' w' z.heap.size v D ∧ qCG col' w' P M C B ∧ Ext 11 col col' z w') :
 Calls prog 51 #[.pointer (some ⟨C,0,none⟩),.agg #[.int .i64 1,.int .i64 lba,.slice a n c]] w fun e w'=>∃ v col',e = .returned (.agg #[.int .i64 E,v]) ∧ qC0 col' w' w.heap.size v D ∧ qCG col' w' P M C B ∧ Ext 11 col col' w w':=by
 obtain ⟨A,vn,vw,h0⟩:=h
 have hkA : qA4 w ((w.alloc (.cells #[.int .i64 1,.int .i64 lba,.slice a n c] 34)).alloc (.cells #[.int .i64 0,.slice none 0 0] 39)):=(qal _).alloc (by simp) _
 have bT : Blk ((w.alloc (.cells #[.int .i64 1,.int .i64 lba,.slice a n c] 34)).alloc (.cells #[.int .i64 0,.slice none 0 0] 39)) (w.heap.size + 1) #[.int .i64 0,.slice none 0 0] 39:=by
  have:=Blk.new (w.alloc (.cells #[.int .i64 1,.int .i64 lba,.slice a n c] 34)) #[.int .i64 0,.slice none 0 0] 39
  rw [World.size_alloc] at this
  exact this
 have hC:=h0.kept hkA
 have q0:=hC.blk.cell 0
 have q5:=hC.blk.cell 5
 have r1:=hC.wm.wd.blk.cell 1
 have CO:=qFt hC.wm.wd
 rw [hg] at CO
 rw [hb] at q5
 have CI:=qEX ⟨1,lba,data⟩ a c (by show data.length ≤ _;omega)
 simp only [hdl] at CI
 rw [his] at CI
 have cT : col (w.heap.size + 1) = 0:=h0.top _ (by omega)
 replace hn:=qh hn
 clear his
 have hmm:=@run_makeMap prog
 have hi1:=qGd
 have hi2:=qGe
 have hi3:=qGf
 have hi4:=qGg
 have hi5:=qGh
 have hlk:=qOR
 go_enter func51,ntmps51
 go_wp2_with fail
 refine CO.mono ?_
 rintro e w1 ⟨rfl,rfl⟩
 go_wp2_with fail
 refine (CI _).mono ?_
 rintro e w2 ⟨rfl,hk2⟩
 have bX2:=(((Blk.new w #[.int .i64 1,.int .i64 lba,.slice a n c] 34).kept ((Below.refl _ _).alloc (by simp) (.cells #[.int .i64 0,.slice none 0 0] 39))).kept hk2)
 have hkM : qA4 w2 (w2.alloc (.map qGy 5)):=qal _
 have bXM:=bX2.kept hkM
 have x0:=bXM.cell 0
 have x1:=bXM.cell 1
 have x2:=bXM.cell 2
 have bTM:=(bT.kept hk2).kept hkM
 have hkW:=(hkA.of hk2).of hkM
 have hsz2:=hk2.size
 have hszT:=(bT.kept hk2).lt
 have hszM:=hkM.size
 have CZ:=CC _ hkW
 go_wp2_with fail
 refine CZ.mono ?_
 rintro e w4 ⟨v,col4,rfl,hv,h4,e4⟩
 obtain ⟨bT4,cT4⟩:=e4.blk0 bTM cT
 have f0:=bT4.free 0
 have f1:=bT4.free 1
 have y0:=bT4.cell 0
 have y1:=bT4.cell 1
 obtain ⟨va,vc,rfl⟩:=(Sl.of_own hv.1).len
 go_wp2_with fail
 have bR:=(bT4.set 0 (.int .i64 E)).set 1 (.slice va D.length vc)
 have hcE : Chg [w.heap.size + 1] w4 ((w4.setCell ⟨w.heap.size + 1,0,none⟩ (.int .i64 E)).setCell ⟨w.heap.size + 1,1,none⟩ (.slice va D.length vc)):=((Chg.refl _ _).set qsm 0 _).set qsm 1 _
 have r0:=bR.cell 0
 have r1:=bR.cell 1
 clear f0 f1 y0 y1
 generalize ((w4.setCell ⟨w.heap.size + 1,0,none⟩ (.int .i64 E)).setCell ⟨w.heap.size + 1,1,none⟩ (.slice va D.length vc)) = wE at *
 obtain ⟨A4,vn4,vw4,h4⟩:=h4
 refine bodyPost_ret (v:=.agg #[.int .i64 E,.slice va D.length vc]) (by simp [results,results51,go_sem,r0,r1];try exact ⟨rfl,rfl⟩) rfl ⟨_,col4,rfl,(hv.chg hcE (by omega)).base (by omega),⟨_,_,_,h4.chg0 hcE cT4⟩,((Ext.kept (m:=11) h0.top hkW).trans e4).newset hcE (by omega)⟩
theorem qRc {col : Nat → Nat} {w : World} {P : qAQ} {M C : Nat} {b : Bx} (h : qCG col w P M C b) (hg : b.x.p.gone = false) (hb : b.c.bad = false) (lba : Int) (a : Option Addr) (n c : Nat) (data : List UInt8) (hdl : data.length = n) (hn : n ≤ 1000000) (his : Cl.is ⟨2,lba,data⟩ = true) (E : Int) (D : List UInt8) (B : Bx)
 (CC : ∀ z,qA4 w z → Calls prog 78 #[.pointer (some ⟨C,0,none⟩),.agg #[.int .i64 2,.int .i64 lba,.slice a n c]] z fun e w'=>∃ v col',e = .returned (.agg #[.int .i64 E,v]) ∧ qC0 col' w' z.heap.size v D ∧ qCG col' w' P M C B ∧ Ext 11 col col' z w') :
 Calls prog 51 #[.pointer (some ⟨C,0,none⟩),.agg #[.int .i64 2,.int .i64 lba,.slice a n c]] w fun e w'=>∃ v col',e = .returned (.agg #[.int .i64 E,v]) ∧ qC0 col' w' w.heap.size v D ∧ qCG col' w' P M C B ∧ Ext 11 col col' w w':=by
 obtain ⟨A,vn,vw,h0⟩:=h
 have hkA : qA4 w ((w.alloc (.cells #[.int .i64 2,.int .i64 lba,.slice a n c] 34)).alloc (.cells #[.int .i64 0,.slice none 0 0] 39)):=(qal _).alloc (by simp) _
 have bT : Blk ((w.alloc (.cells #[.int .i64 2,.int .i64 lba,.slice a n c] 34)).alloc (.cells #[.int .i64 0,.slice none 0 0] 39)) (w.heap.size + 1) #[.int .i64 0,.slice none 0 0] 39:=by
  have:=Blk.new (w.alloc (.cells #[.int .i64 2,.int .i64 lba,.slice a n c] 34)) #[.int .i64 0,.slice none 0 0] 39
  rw [World.size_alloc] at this
  exact this
 have hC:=h0.kept hkA
 have q0:=hC.blk.cell 0
 have q5:=hC.blk.cell 5
 have r1:=hC.wm.wd.blk.cell 1
 have CO:=qFt hC.wm.wd
 rw [hg] at CO
 rw [hb] at q5
 have CI:=qEX ⟨2,lba,data⟩ a c (by show data.length ≤ _;omega)
 simp only [hdl] at CI
 rw [his] at CI
 have cT : col (w.heap.size + 1) = 0:=h0.top _ (by omega)
 replace hn:=qh hn
 clear his
 have hmm:=@run_makeMap prog
 have hi1:=qGd
 have hi2:=qGe
 have hi3:=qGf
 have hi4:=qGg
 have hi5:=qGh
 have hlk:=qOS
 go_enter func51,ntmps51
 go_wp2_with fail
 refine CO.mono ?_
 rintro e w1 ⟨rfl,rfl⟩
 go_wp2_with fail
 refine (CI _).mono ?_
 rintro e w2 ⟨rfl,hk2⟩
 have bX2:=(((Blk.new w #[.int .i64 2,.int .i64 lba,.slice a n c] 34).kept ((Below.refl _ _).alloc (by simp) (.cells #[.int .i64 0,.slice none 0 0] 39))).kept hk2)
 have hkM : qA4 w2 (w2.alloc (.map qGy 5)):=qal _
 have bXM:=bX2.kept hkM
 have x0:=bXM.cell 0
 have x1:=bXM.cell 1
 have x2:=bXM.cell 2
 have bTM:=(bT.kept hk2).kept hkM
 have hkW:=(hkA.of hk2).of hkM
 have hsz2:=hk2.size
 have hszT:=(bT.kept hk2).lt
 have hszM:=hkM.size
 have CZ:=CC _ hkW
 go_wp2_with fail
 refine CZ.mono ?_
 rintro e w4 ⟨v,col4,rfl,hv,h4,e4⟩
 obtain ⟨bT4,cT4⟩:=e4.blk0 bTM cT
 have f0:=bT4.free 0
 have f1:=bT4.free 1
 have y0:=bT4.cell 0
 have y1:=bT4.cell 1
 obtain ⟨va,vc,rfl⟩:=(Sl.of_own hv.1).len
 go_wp2_with fail
 have bR:=(bT4.set 0 (.int .i64 E)).set 1 (.slice va D.length vc)
 have hcE : Chg [w.heap.size + 1] w4 ((w4.setCell ⟨w.heap.size + 1,0,none⟩ (.int .i64 E)).setCell ⟨w.heap.size + 1,1,none⟩ (.slice va D.length vc)):=((Chg.refl _ _).set qsm 0 _).set qsm 1 _
 have r0:=bR.cell 0
 have r1:=bR.cell 1
 clear f0 f1 y0 y1
 generalize ((w4.setCell ⟨w.heap.size + 1,0,none⟩ (.int .i64 E)).setCell ⟨w.heap.size + 1,1,none⟩ (.slice va D.length vc)) = wE at *
 obtain ⟨A4,vn4,vw4,h4⟩:=h4
 refine bodyPost_ret (v:=.agg #[.int .i64 E,.slice va D.length vc]) (by simp [results,results51,go_sem,r0,r1];try exact ⟨rfl,rfl⟩) rfl ⟨_,col4,rfl,(hv.chg hcE (by omega)).base (by omega),⟨_,_,_,h4.chg0 hcE cT4⟩,((Ext.kept (m:=11) h0.top hkW).trans e4).newset hcE (by omega)⟩
theorem qRd {col : Nat → Nat} {w : World} {P : qAQ} {M C : Nat} {b : Bx} (h : qCG col w P M C b) (hg : b.x.p.gone = false) (hb : b.c.bad = false) (lba : Int) (a : Option Addr) (n c : Nat) (data : List UInt8) (hdl : data.length = n) (hn : n ≤ 1000000) (his : Cl.is ⟨3,lba,data⟩ = true) (E : Int) (D : List UInt8) (B : Bx)
 (CC : ∀ z,qA4 w z → Calls prog 79 #[.pointer (some ⟨C,0,none⟩),.agg #[.int .i64 3,.int .i64 lba,.slice a n c]] z fun e w'=>∃ v col',e = .returned (.agg #[.int .i64 E,v]) ∧ qC0 col' w' z.heap.size v D ∧ qCG col' w' P M C B ∧ Ext 11 col col' z w') :
 Calls prog 51 #[.pointer (some ⟨C,0,none⟩),.agg #[.int .i64 3,.int .i64 lba,.slice a n c]] w fun e w'=>∃ v col',e = .returned (.agg #[.int .i64 E,v]) ∧ qC0 col' w' w.heap.size v D ∧ qCG col' w' P M C B ∧ Ext 11 col col' w w':=by
 obtain ⟨A,vn,vw,h0⟩:=h
 have hkA : qA4 w ((w.alloc (.cells #[.int .i64 3,.int .i64 lba,.slice a n c] 34)).alloc (.cells #[.int .i64 0,.slice none 0 0] 39)):=(qal _).alloc (by simp) _
 have bT : Blk ((w.alloc (.cells #[.int .i64 3,.int .i64 lba,.slice a n c] 34)).alloc (.cells #[.int .i64 0,.slice none 0 0] 39)) (w.heap.size + 1) #[.int .i64 0,.slice none 0 0] 39:=by
  have:=Blk.new (w.alloc (.cells #[.int .i64 3,.int .i64 lba,.slice a n c] 34)) #[.int .i64 0,.slice none 0 0] 39
  rw [World.size_alloc] at this
  exact this
 have hC:=h0.kept hkA
 have q0:=hC.blk.cell 0
 have q5:=hC.blk.cell 5
 have r1:=hC.wm.wd.blk.cell 1
 have CO:=qFt hC.wm.wd
 rw [hg] at CO
 rw [hb] at q5
 have CI:=qEX ⟨3,lba,data⟩ a c (by show data.length ≤ _;omega)
 simp only [hdl] at CI
 rw [his] at CI
 have cT : col (w.heap.size + 1) = 0:=h0.top _ (by omega)
 replace hn:=qh hn
 clear his
 have hmm:=@run_makeMap prog
 have hi1:=qGd
 have hi2:=qGe
 have hi3:=qGf
 have hi4:=qGg
 have hi5:=qGh
 have hlk:=qOT
 go_enter func51,ntmps51
 go_wp2_with fail
 refine CO.mono ?_
 rintro e w1 ⟨rfl,rfl⟩
 go_wp2_with fail
 refine (CI _).mono ?_
 rintro e w2 ⟨rfl,hk2⟩
 have bX2:=(((Blk.new w #[.int .i64 3,.int .i64 lba,.slice a n c] 34).kept ((Below.refl _ _).alloc (by simp) (.cells #[.int .i64 0,.slice none 0 0] 39))).kept hk2)
 have hkM : qA4 w2 (w2.alloc (.map qGy 5)):=qal _
 have bXM:=bX2.kept hkM
 have x0:=bXM.cell 0
 have x1:=bXM.cell 1
 have x2:=bXM.cell 2
 have bTM:=(bT.kept hk2).kept hkM
 have hkW:=(hkA.of hk2).of hkM
 have hsz2:=hk2.size
 have hszT:=(bT.kept hk2).lt
 have hszM:=hkM.size
 have CZ:=CC _ hkW
 go_wp2_with fail
 refine CZ.mono ?_
 rintro e w4 ⟨v,col4,rfl,hv,h4,e4⟩
 obtain ⟨bT4,cT4⟩:=e4.blk0 bTM cT
 have f0:=bT4.free 0
 have f1:=bT4.free 1
 have y0:=bT4.cell 0
 have y1:=bT4.cell 1
 obtain ⟨va,vc,rfl⟩:=(Sl.of_own hv.1).len
 go_wp2_with fail
 have bR:=(bT4.set 0 (.int .i64 E)).set 1 (.slice va D.length vc)
 have hcE : Chg [w.heap.size + 1] w4 ((w4.setCell ⟨w.heap.size + 1,0,none⟩ (.int .i64 E)).setCell ⟨w.heap.size + 1,1,none⟩ (.slice va D.length vc)):=((Chg.refl _ _).set qsm 0 _).set qsm 1 _
 have r0:=bR.cell 0
 have r1:=bR.cell 1
 clear f0 f1 y0 y1
 generalize ((w4.setCell ⟨w.heap.size + 1,0,none⟩ (.int .i64 E)).setCell ⟨w.heap.size + 1,1,none⟩ (.slice va D.length vc)) = wE at *
 obtain ⟨A4,vn4,vw4,h4⟩:=h4
 refine bodyPost_ret (v:=.agg #[.int .i64 E,.slice va D.length vc]) (by simp [results,results51,go_sem,r0,r1];try exact ⟨rfl,rfl⟩) rfl ⟨_,col4,rfl,(hv.chg hcE (by omega)).base (by omega),⟨_,_,_,h4.chg0 hcE cT4⟩,((Ext.kept (m:=11) h0.top hkW).trans e4).newset hcE (by omega)⟩
theorem qRe {col : Nat → Nat} {w : World} {P : qAQ} {M C : Nat} {b : Bx} (h : qCG col w P M C b) (hg : b.x.p.gone = false) (hb : b.c.bad = false) (lba : Int) (a : Option Addr) (n c : Nat) (data : List UInt8) (hdl : data.length = n) (hn : n ≤ 1000000) (his : Cl.is ⟨4,lba,data⟩ = true) (E : Int) (D : List UInt8) (B : Bx)
 (CC : ∀ z,qA4 w z → Calls prog 80 #[.pointer (some ⟨C,0,none⟩),.agg #[.int .i64 4,.int .i64 lba,.slice a n c]] z fun e w'=>∃ v col',e = .returned (.agg #[.int .i64 E,v]) ∧ qC0 col' w' z.heap.size v D ∧ qCG col' w' P M C B ∧ Ext 11 col col' z w') :
 Calls prog 51 #[.pointer (some ⟨C,0,none⟩),.agg #[.int .i64 4,.int .i64 lba,.slice a n c]] w fun e w'=>∃ v col',e = .returned (.agg #[.int .i64 E,v]) ∧ qC0 col' w' w.heap.size v D ∧ qCG col' w' P M C B ∧ Ext 11 col col' w w':=by
 obtain ⟨A,vn,vw,h0⟩:=h
 have hkA : qA4 w ((w.alloc (.cells #[.int .i64 4,.int .i64 lba,.slice a n c] 34)).alloc (.cells #[.int .i64 0,.slice none 0 0] 39)):=(qal _).alloc (by simp) _
 have bT : Blk ((w.alloc (.cells #[.int .i64 4,.int .i64 lba,.slice a n c] 34)).alloc (.cells #[.int .i64 0,.slice none 0 0] 39)) (w.heap.size + 1) #[.int .i64 0,.slice none 0 0] 39:=by
  have:=Blk.new (w.alloc (.cells #[.int .i64 4,.int .i64 lba,.slice a n c] 34)) #[.int .i64 0,.slice none 0 0] 39
  rw [World.size_alloc] at this
  exact this
 have hC:=h0.kept hkA
 have q0:=hC.blk.cell 0
 have q5:=hC.blk.cell 5
 have r1:=hC.wm.wd.blk.cell 1
 have CO:=qFt hC.wm.wd
 rw [hg] at CO
 rw [hb] at q5
 have CI:=qEX ⟨4,lba,data⟩ a c (by show data.length ≤ _;omega)
 simp only [hdl] at CI
 rw [his] at CI
 have cT : col (w.heap.size + 1) = 0:=h0.top _ (by omega)
 replace hn:=qh hn
 clear his
 have hmm:=@run_makeMap prog
 have hi1:=qGd
 have hi2:=qGe
 have hi3:=qGf
 have hi4:=qGg
 have hi5:=qGh
 have hlk:=qOU
 go_enter func51,ntmps51
 go_wp2_with fail
 refine CO.mono ?_
 rintro e w1 ⟨rfl,rfl⟩
 go_wp2_with fail
 refine (CI _).mono ?_
 rintro e w2 ⟨rfl,hk2⟩
 have bX2:=(((Blk.new w #[.int .i64 4,.int .i64 lba,.slice a n c] 34).kept ((Below.refl _ _).alloc (by simp) (.cells #[.int .i64 0,.slice none 0 0] 39))).kept hk2)
 have hkM : qA4 w2 (w2.alloc (.map qGy 5)):=qal _
 have bXM:=bX2.kept hkM
 have x0:=bXM.cell 0
 have x1:=bXM.cell 1
 have x2:=bXM.cell 2
 have bTM:=(bT.kept hk2).kept hkM
 have hkW:=(hkA.of hk2).of hkM
 have hsz2:=hk2.size
 have hszT:=(bT.kept hk2).lt
 have hszM:=hkM.size
 have CZ:=CC _ hkW
 go_wp2_with fail
 refine CZ.mono ?_
 rintro e w4 ⟨v,col4,rfl,hv,h4,e4⟩
 obtain ⟨bT4,cT4⟩:=e4.blk0 bTM cT
 have f0:=bT4.free 0
 have f1:=bT4.free 1
 have y0:=bT4.cell 0
 have y1:=bT4.cell 1
 obtain ⟨va,vc,rfl⟩:=(Sl.of_own hv.1).len
 go_wp2_with fail
 have bR:=(bT4.set 0 (.int .i64 E)).set 1 (.slice va D.length vc)
 have hcE : Chg [w.heap.size + 1] w4 ((w4.setCell ⟨w.heap.size + 1,0,none⟩ (.int .i64 E)).setCell ⟨w.heap.size + 1,1,none⟩ (.slice va D.length vc)):=((Chg.refl _ _).set qsm 0 _).set qsm 1 _
 have r0:=bR.cell 0
 have r1:=bR.cell 1
 clear f0 f1 y0 y1
 generalize ((w4.setCell ⟨w.heap.size + 1,0,none⟩ (.int .i64 E)).setCell ⟨w.heap.size + 1,1,none⟩ (.slice va D.length vc)) = wE at *
 obtain ⟨A4,vn4,vw4,h4⟩:=h4
 refine bodyPost_ret (v:=.agg #[.int .i64 E,.slice va D.length vc]) (by simp [results,results51,go_sem,r0,r1];try exact ⟨rfl,rfl⟩) rfl ⟨_,col4,rfl,(hv.chg hcE (by omega)).base (by omega),⟨_,_,_,h4.chg0 hcE cT4⟩,((Ext.kept (m:=11) h0.top hkW).trans e4).newset hcE (by omega)⟩
theorem qRf {col : Nat → Nat} {w : World} {P : qAQ} {M C : Nat} {b : Bx} (h : qCG col w P M C b) (hg : b.x.p.gone = false) (hb : b.c.bad = false) (lba : Int) (a : Option Addr) (n c : Nat) (data : List UInt8) (hdl : data.length = n) (hn : n ≤ 1000000) (his : Cl.is ⟨5,lba,data⟩ = true) (E : Int) (D : List UInt8) (B : Bx)
 (CC : ∀ z,qA4 w z → Calls prog 81 #[.pointer (some ⟨C,0,none⟩),.agg #[.int .i64 5,.int .i64 lba,.slice a n c]] z fun e w'=>∃ v col',e = .returned (.agg #[.int .i64 E,v]) ∧ qC0 col' w' z.heap.size v D ∧ qCG col' w' P M C B ∧ Ext 11 col col' z w') :
 Calls prog 51 #[.pointer (some ⟨C,0,none⟩),.agg #[.int .i64 5,.int .i64 lba,.slice a n c]] w fun e w'=>∃ v col',e = .returned (.agg #[.int .i64 E,v]) ∧ qC0 col' w' w.heap.size v D ∧ qCG col' w' P M C B ∧ Ext 11 col col' w w':=by
 obtain ⟨A,vn,vw,h0⟩:=h
 have hkA : qA4 w ((w.alloc (.cells #[.int .i64 5,.int .i64 lba,.slice a n c] 34)).alloc (.cells #[.int .i64 0,.slice none 0 0] 39)):=(qal _).alloc (by simp) _
 have bT : Blk ((w.alloc (.cells #[.int .i64 5,.int .i64 lba,.slice a n c] 34)).alloc (.cells #[.int .i64 0,.slice none 0 0] 39)) (w.heap.size + 1) #[.int .i64 0,.slice none 0 0] 39:=by
  have:=Blk.new (w.alloc (.cells #[.int .i64 5,.int .i64 lba,.slice a n c] 34)) #[.int .i64 0,.slice none 0 0] 39
  rw [World.size_alloc] at this
  exact this
 have hC:=h0.kept hkA
 have q0:=hC.blk.cell 0
 have q5:=hC.blk.cell 5
 have r1:=hC.wm.wd.blk.cell 1
 have CO:=qFt hC.wm.wd
 rw [hg] at CO
 rw [hb] at q5
 have CI:=qEX ⟨5,lba,data⟩ a c (by show data.length ≤ _;omega)
 simp only [hdl] at CI
 rw [his] at CI
 have cT : col (w.heap.size + 1) = 0:=h0.top _ (by omega)
 replace hn:=qh hn
 clear his
 have hmm:=@run_makeMap prog
 have hi1:=qGd
 have hi2:=qGe
 have hi3:=qGf
 have hi4:=qGg
 have hi5:=qGh
 have hlk:=qOV
 go_enter func51,ntmps51
 go_wp2_with fail
 refine CO.mono ?_
 rintro e w1 ⟨rfl,rfl⟩
 go_wp2_with fail
 refine (CI _).mono ?_
 rintro e w2 ⟨rfl,hk2⟩
 have bX2:=(((Blk.new w #[.int .i64 5,.int .i64 lba,.slice a n c] 34).kept ((Below.refl _ _).alloc (by simp) (.cells #[.int .i64 0,.slice none 0 0] 39))).kept hk2)
 have hkM : qA4 w2 (w2.alloc (.map qGy 5)):=qal _
 have bXM:=bX2.kept hkM
 have x0:=bXM.cell 0
 have x1:=bXM.cell 1
 have x2:=bXM.cell 2
 have bTM:=(bT.kept hk2).kept hkM
 have hkW:=(hkA.of hk2).of hkM
 have hsz2:=hk2.size
 have hszT:=(bT.kept hk2).lt
 have hszM:=hkM.size
 have CZ:=CC _ hkW
 go_wp2_with fail
 refine CZ.mono ?_
 rintro e w4 ⟨v,col4,rfl,hv,h4,e4⟩
 obtain ⟨bT4,cT4⟩:=e4.blk0 bTM cT
 have f0:=bT4.free 0
 have f1:=bT4.free 1
 have y0:=bT4.cell 0
 have y1:=bT4.cell 1
 obtain ⟨va,vc,rfl⟩:=(Sl.of_own hv.1).len
 go_wp2_with fail
 have bR:=(bT4.set 0 (.int .i64 E)).set 1 (.slice va D.length vc)
 have hcE : Chg [w.heap.size + 1] w4 ((w4.setCell ⟨w.heap.size + 1,0,none⟩ (.int .i64 E)).setCell ⟨w.heap.size + 1,1,none⟩ (.slice va D.length vc)):=((Chg.refl _ _).set qsm 0 _).set qsm 1 _
 have r0:=bR.cell 0
 have r1:=bR.cell 1
 clear f0 f1 y0 y1
 generalize ((w4.setCell ⟨w.heap.size + 1,0,none⟩ (.int .i64 E)).setCell ⟨w.heap.size + 1,1,none⟩ (.slice va D.length vc)) = wE at *
 obtain ⟨A4,vn4,vw4,h4⟩:=h4
 refine bodyPost_ret (v:=.agg #[.int .i64 E,.slice va D.length vc]) (by simp [results,results51,go_sem,r0,r1];try exact ⟨rfl,rfl⟩) rfl ⟨_,col4,rfl,(hv.chg hcE (by omega)).base (by omega),⟨_,_,_,h4.chg0 hcE cT4⟩,((Ext.kept (m:=11) h0.top hkW).trans e4).newset hcE (by omega)⟩
theorem qNh {col : Nat → Nat} {w : World} {P : qAQ} {M C : Nat} {b : Bx} (h : qCG col w P M C b) (hg : b.x.p.gone = true) (kd lba : Int) (a : Option Addr) (n c : Nat) (data : List UInt8) (_ : data.length = n) (_ : n ≤ 1000000) : Calls prog 51 #[.pointer (some ⟨C,0,none⟩),.agg #[.int .i64 kd,.int .i64 lba,.slice a n c]] w fun e w'=>∃ v col',e = .returned (.agg #[.int .i64 7,v]) ∧ qC0 col' w' w.heap.size v [] ∧ qCG col' w' P M C b ∧ Ext 11 col col' w w':=by
 obtain ⟨A,vn,vw,h0⟩:=h
 have hkA : qA4 w ((w.alloc (.cells #[.int .i64 kd,.int .i64 lba,.slice a n c] 34)).alloc (.cells #[.int .i64 0,.slice none 0 0] 39)):=(qal _).alloc (by simp) _
 have bT : Blk ((w.alloc (.cells #[.int .i64 kd,.int .i64 lba,.slice a n c] 34)).alloc (.cells #[.int .i64 0,.slice none 0 0] 39)) (w.heap.size + 1) #[.int .i64 0,.slice none 0 0] 39:=by
  have:=Blk.new (w.alloc (.cells #[.int .i64 kd,.int .i64 lba,.slice a n c] 34)) #[.int .i64 0,.slice none 0 0] 39
  rw [World.size_alloc] at this
  exact this
 have hC:=h0.kept hkA
 have q0:=hC.blk.cell 0
 have q5:=hC.blk.cell 5
 have r1:=hC.wm.wd.blk.cell 1
 have CO:=qFt hC.wm.wd
 have cT : col (w.heap.size + 1) = 0:=h0.top _ (by omega)
 have exA : Ext 11 col col w ((w.alloc (.cells #[.int .i64 kd,.int .i64 lba,.slice a n c] 34)).alloc (.cells #[.int .i64 0,.slice none 0 0] 39)):=Ext.kept h0.top hkA
 rw [hg] at CO
 go_enter func51,ntmps51
 go_wp2_with fail
 generalize ((w.alloc (.cells #[.int .i64 kd,.int .i64 lba,.slice a n c] 34)).alloc (.cells #[.int .i64 0,.slice none 0 0] 39)) = wA at *
 refine CO.mono ?_
 rintro e w1 ⟨rfl,rfl⟩
 have f0:=(bT).free 0
 have f1:=(bT).free 1
 have x0:=(bT).cell 0
 have x1:=(bT).cell 1
 go_wp2_with fail
 have bR:=((bT).set 0 (.int .i64 (7))).set 1 (.slice none 0 0)
 have hcE : Chg [w.heap.size + 1] wA ((wA.setCell ⟨w.heap.size + 1,0,none⟩ (.int .i64 (7))).setCell ⟨w.heap.size + 1,1,none⟩ (.slice none 0 0)):=((Chg.refl _ _).set qsm 0 _).set qsm 1 _
 have r0:=bR.cell 0
 have r1:=bR.cell 1
 clear f0 f1 x0 x1
 generalize ((wA.setCell ⟨w.heap.size + 1,0,none⟩ (.int .i64 (7))).setCell ⟨w.heap.size + 1,1,none⟩ (.slice none 0 0)) = wE at *
 refine bodyPost_ret (v:=.agg #[.int .i64 (7),.slice none 0 0]) (by simp [results,results51,go_sem,r0,r1];try exact ⟨rfl,rfl⟩) rfl ⟨_,col,rfl,qC0.nil,⟨_,_,_,hC.chg0 hcE cT⟩,exA.newset hcE (Nat.le_succ _)⟩
theorem qNi {col : Nat → Nat} {w : World} {P : qAQ} {M C : Nat} {b : Bx} (h : qCG col w P M C b) (hg : b.x.p.gone = false) (hb : b.c.bad = true) (kd lba : Int) (a : Option Addr) (n c : Nat) (data : List UInt8) (_ : data.length = n) (_ : n ≤ 1000000) : Calls prog 51 #[.pointer (some ⟨C,0,none⟩),.agg #[.int .i64 kd,.int .i64 lba,.slice a n c]] w fun e w'=>∃ v col',e = .returned (.agg #[.int .i64 4,v]) ∧ qC0 col' w' w.heap.size v [] ∧ qCG col' w' P M C b ∧ Ext 11 col col' w w':=by
 obtain ⟨A,vn,vw,h0⟩:=h
 have hkA : qA4 w ((w.alloc (.cells #[.int .i64 kd,.int .i64 lba,.slice a n c] 34)).alloc (.cells #[.int .i64 0,.slice none 0 0] 39)):=(qal _).alloc (by simp) _
 have bT : Blk ((w.alloc (.cells #[.int .i64 kd,.int .i64 lba,.slice a n c] 34)).alloc (.cells #[.int .i64 0,.slice none 0 0] 39)) (w.heap.size + 1) #[.int .i64 0,.slice none 0 0] 39:=by
  have:=Blk.new (w.alloc (.cells #[.int .i64 kd,.int .i64 lba,.slice a n c] 34)) #[.int .i64 0,.slice none 0 0] 39
  rw [World.size_alloc] at this
  exact this
 have hC:=h0.kept hkA
 have q0:=hC.blk.cell 0
 have q5:=hC.blk.cell 5
 have r1:=hC.wm.wd.blk.cell 1
 have CO:=qFt hC.wm.wd
 have cT : col (w.heap.size + 1) = 0:=h0.top _ (by omega)
 have exA : Ext 11 col col w ((w.alloc (.cells #[.int .i64 kd,.int .i64 lba,.slice a n c] 34)).alloc (.cells #[.int .i64 0,.slice none 0 0] 39)):=Ext.kept h0.top hkA
 rw [hg] at CO
 rw [hb] at q5
 go_enter func51,ntmps51
 go_wp2_with fail
 generalize ((w.alloc (.cells #[.int .i64 kd,.int .i64 lba,.slice a n c] 34)).alloc (.cells #[.int .i64 0,.slice none 0 0] 39)) = wA at *
 refine CO.mono ?_
 rintro e w1 ⟨rfl,rfl⟩
 have f0:=(bT).free 0
 have f1:=(bT).free 1
 have x0:=(bT).cell 0
 have x1:=(bT).cell 1
 go_wp2_with fail
 have bR:=((bT).set 0 (.int .i64 (4))).set 1 (.slice none 0 0)
 have hcE : Chg [w.heap.size + 1] wA ((wA.setCell ⟨w.heap.size + 1,0,none⟩ (.int .i64 (4))).setCell ⟨w.heap.size + 1,1,none⟩ (.slice none 0 0)):=((Chg.refl _ _).set qsm 0 _).set qsm 1 _
 have r0:=bR.cell 0
 have r1:=bR.cell 1
 clear f0 f1 x0 x1
 generalize ((wA.setCell ⟨w.heap.size + 1,0,none⟩ (.int .i64 (4))).setCell ⟨w.heap.size + 1,1,none⟩ (.slice none 0 0)) = wE at *
 refine bodyPost_ret (v:=.agg #[.int .i64 (4),.slice none 0 0]) (by simp [results,results51,go_sem,r0,r1];try exact ⟨rfl,rfl⟩) rfl ⟨_,col,rfl,qC0.nil,⟨_,_,_,hC.chg0 hcE cT⟩,exA.newset hcE (Nat.le_succ _)⟩
theorem qNj {col : Nat → Nat} {w : World} {P : qAQ} {M C : Nat} {b : Bx} (h : qCG col w P M C b) (hg : b.x.p.gone = false) (hb : b.c.bad = false) (kd lba : Int) (a : Option Addr) (n c : Nat) (data : List UInt8) (hdl : data.length = n) (hn : n ≤ 1000000) (his : Cl.is ⟨kd,lba,data⟩ = false) : Calls prog 51 #[.pointer (some ⟨C,0,none⟩),.agg #[.int .i64 kd,.int .i64 lba,.slice a n c]] w fun e w'=>∃ v col',e = .returned (.agg #[.int .i64 1,v]) ∧ qC0 col' w' w.heap.size v [] ∧ qCG col' w' P M C b ∧ Ext 11 col col' w w':=by
 obtain ⟨A,vn,vw,h0⟩:=h
 have hkA : qA4 w ((w.alloc (.cells #[.int .i64 kd,.int .i64 lba,.slice a n c] 34)).alloc (.cells #[.int .i64 0,.slice none 0 0] 39)):=(qal _).alloc (by simp) _
 have bT : Blk ((w.alloc (.cells #[.int .i64 kd,.int .i64 lba,.slice a n c] 34)).alloc (.cells #[.int .i64 0,.slice none 0 0] 39)) (w.heap.size + 1) #[.int .i64 0,.slice none 0 0] 39:=by
  have:=Blk.new (w.alloc (.cells #[.int .i64 kd,.int .i64 lba,.slice a n c] 34)) #[.int .i64 0,.slice none 0 0] 39
  rw [World.size_alloc] at this
  exact this
 have hC:=h0.kept hkA
 have q0:=hC.blk.cell 0
 have q5:=hC.blk.cell 5
 have r1:=hC.wm.wd.blk.cell 1
 have CO:=qFt hC.wm.wd
 have cT : col (w.heap.size + 1) = 0:=h0.top _ (by omega)
 have exA : Ext 11 col col w ((w.alloc (.cells #[.int .i64 kd,.int .i64 lba,.slice a n c] 34)).alloc (.cells #[.int .i64 0,.slice none 0 0] 39)):=Ext.kept h0.top hkA
 rw [hg] at CO
 rw [hb] at q5
 have CI:=qEX ⟨kd,lba,data⟩ a c (by show data.length ≤ _;omega)
 simp only [hdl] at CI
 rw [his] at CI
 have bX:=(Blk.new w #[.int .i64 kd,.int .i64 lba,.slice a n c] 34).kept ((Below.refl _ _).alloc (by simp) (.cells #[.int .i64 0,.slice none 0 0] 39))
 have x0:=bX.cell 0
 have x1:=bX.cell 1
 have x2:=bX.cell 2
 replace hn:=qh hn
 clear his hdl
 go_enter func51,ntmps51
 go_wp2_with fail
 refine CO.mono ?_
 rintro e w1 ⟨rfl,rfl⟩
 go_wp2_with fail
 refine (CI _).mono ?_
 rintro e w2 ⟨rfl,hk2⟩
 have bT2:=bT.kept hk2
 have hC2:=hC.kept hk2
 have ex2:=exA.trans (Ext.kept (m:=11) hC.top hk2)
 clear x0 x1 x2
 have f0:=(bT2).free 0
 have f1:=(bT2).free 1
 have x0:=(bT2).cell 0
 have x1:=(bT2).cell 1
 go_wp2_with fail
 have bR:=((bT2).set 0 (.int .i64 (1))).set 1 (.slice none 0 0)
 have hcE : Chg [w.heap.size + 1] w2 ((w2.setCell ⟨w.heap.size + 1,0,none⟩ (.int .i64 (1))).setCell ⟨w.heap.size + 1,1,none⟩ (.slice none 0 0)):=((Chg.refl _ _).set qsm 0 _).set qsm 1 _
 have r0:=bR.cell 0
 have r1:=bR.cell 1
 clear f0 f1 x0 x1
 generalize ((w2.setCell ⟨w.heap.size + 1,0,none⟩ (.int .i64 (1))).setCell ⟨w.heap.size + 1,1,none⟩ (.slice none 0 0)) = wE at *
 refine bodyPost_ret (v:=.agg #[.int .i64 (1),.slice none 0 0]) (by simp [results,results51,go_sem,r0,r1];try exact ⟨rfl,rfl⟩) rfl ⟨_,col,rfl,qC0.nil,⟨_,_,_,hC2.chg0 hcE cT⟩,ex2.newset hcE (Nat.le_succ _)⟩
theorem qEI {col : Nat → Nat} {w' : World} {P : qAQ} {M C : Nat} {B : Bx} {e : Ending} {E : Int} {z : World} (h : e = .returned (.agg #[.int .i64 E,.slice none 0 0]) ∧ qG5 col z P M C B w') : ∃ v col',e = .returned (.agg #[.int .i64 E,v]) ∧ qC0 col' w' z.heap.size v [] ∧ qCG col' w' P M C B ∧ Ext 11 col col' z w':=by
 obtain ⟨h1,col',h2,h3⟩:=h
 exact ⟨_,col',h1,qC0.nil,h2,h3⟩
theorem qRR {col : Nat → Nat} {w : World} {P : qAQ} {M C : Nat} {b : Bx} (h : qCG col w P M C b) {m : Nat} (g : b.good m) (hm : m ≤ 39000) (cl : Cl) (a : Option Addr) (c : Nat) (hn : cl.data.length ≤ 1000000) (sd : SlC col w (.slice a cl.data.length c) cl.data) : Calls prog 51 #[.pointer (some ⟨C,0,none⟩),.agg #[.int .i64 cl.kind,.int .i64 cl.lba,.slice a cl.data.length c]] w fun e w'=>∃ v col',e = .returned (.agg #[.int .i64 (b.doC cl).1.1,v]) ∧ qC0 col' w' w.heap.size v (b.doC cl).1.2 ∧ qCG col' w' P M C (b.doC cl).2 ∧ Ext 11 col col' w w':=by
 have h1:=h
 obtain ⟨kd,lba,data⟩:=cl
 simp only at hn sd ⊢
 unfold Bx.doC
 cases hg : b.x.p.gone with
 | true=>exact qNh h hg kd lba a data.length c data rfl hn
 | false =>
  cases hb : b.c.bad with
  | true=>exact qNi h hg hb kd lba a data.length c data rfl hn
  | false =>
   cases his : Cl.is ⟨kd,lba,data⟩ with
   | false=>exact qNj h hg hb kd lba a data.length c data rfl hn his
   | true =>
    have hkin : ∀ z,qA4 w z → qCG col z P M C b:=fun z hz=>by
     obtain ⟨A,vn,vw,h0⟩:=h1
     exact ⟨A,vn,vw,h0.kept hz⟩
    have htop : Top col w:=by
     obtain ⟨A,vn,vw,h0⟩:=h1
     exact h0.top
    simp only [Bool.false_eq_true,if_false,Bool.true_eq_false]
    have his2:=his
    unfold Cl.is at his2
    simp only at his2
    by_cases h1k : kd = 1
    · rw [if_pos h1k] at his2 ⊢
      subst h1k
      exact qRb h hg hb lba a data.length c data rfl hn his _ _ _ (fun z hz=>qQ6 (hkin z hz) g hm hg 1 lba his2 a data.length c)
    · rw [if_neg h1k] at his2 ⊢
      by_cases h2k : kd = 2
      · subst h2k
        rw [if_pos rfl]
        rw [if_neg (by decide),if_pos rfl] at his2
        simp only [Bool.and_eq_true,decide_eq_true_eq] at his2
        exact qRc h hg hb lba a data.length c data rfl hn his _ _ _ (fun z hz=>(qOP (hkin z hz) g hm 2 lba a data.length c data his2.2 his2.1 (sd.ext (Ext.kept (m:=11) htop hz))).mono (fun e w' h=>qEI h))
      · rw [if_neg h2k]
        by_cases h3k : kd = 3
        · subst h3k
          rw [if_pos rfl]
          exact qRd h hg hb lba a data.length c data rfl hn his _ _ _ (fun z hz=>(qOQ (hkin z hz) g.f (by omega) 3 lba a data.length c).mono (fun e w' h=>qEI h))
        · rw [if_neg h3k]
          by_cases h4k : kd = 4
          · subst h4k
            rw [if_pos rfl]
            exact qRe h hg hb lba a data.length c data rfl hn his _ _ _ (fun z hz=>(qLF (hkin z hz) g hm 4 lba a data.length c).mono (fun e w' h=>qEI h))
          · rw [if_neg h4k]
            rw [if_neg h4k,if_neg h2k] at his2
            have h5k : kd = 5:=by
             simp only [Bool.or_eq_true,decide_eq_true_eq] at his2
             omega
            subst h5k
            exact qRf h hg hb lba a data.length c data rfl hn his _ _ _ (fun z hz=>(qNg (hkin z hz) g hm 5 lba a data.length c).mono (fun e w' h=>qEI h))
def dye (col : Nat → Nat) (g i : Nat) : Nat → Nat:=fun k=>if k = g then i else col k
section
variable {col : Nat → Nat} {w : World} {g i : Nat} {P : qAQ} {x : Wd}
theorem qFE : dye col g i g = i:=if_pos rfl
theorem qIE {k : Nat} (h : k ≠ g) : dye col g i k = col k:=if_neg h
theorem Top.dye (h : Top col w) (hg : g < w.heap.size) : Top (dye col g i) w:=fun k hk=>by rw [qIE (by omega)];exact h k hk
theorem qAZ.dye {j : Nat} (hg : col g = 0) (hj : j ≠ 0) : qAZ j col (dye col g i) w w :=
 ⟨Nat.le_refl _,fun k _ hc=>by rw [qIE (fun e=>hj (by rw [← hc,e,hg]))];exact hc,fun _ _ _=>rfl⟩
theorem qAS.dye (h : qAS col w P x) (hg : col g = 0) (hl : g < w.heap.size) (hi : 7 < i) : qAS (dye col g i) w P x :=
 h.free (fun j h1 _=>qAZ.dye hg (by omega)) (Top.dye h.top hl) (fun k hk hc=>by
  by_cases e : k = g
  · subst e;rw [qFE] at hc;omega
  · rw [qIE e] at hc;exact ⟨hk,hc⟩)
theorem Ext.dye {m : Nat} {col0 : Nat → Nat} {w0 : World} (e : Ext m col0 col w0 w) (hg : w0.heap.size ≤ g) (hl : g < w.heap.size) (hi : i ≤ m) : Ext m col0 (dye col g i) w0 w :=
 ⟨e.os,e.tape,e.output,e.size,fun k hk=>by rw [qIE (by omega)];exact e.old k hk,fun k hk=>by
  by_cases h : k = g
  · subst h;rw [qFE];exact hi
  · rw [qIE h];exact e.new k hk,Top.dye e.top hl,e.block⟩
theorem qAS.paint {w' : World} (h : qAS col w P x) (hk : qA4 w w') (hi : 7 < i) : qAS (qAj col i w w') w' P x :=
 h.free (fun j _ _=>qAZ.paint hk) (Ext.paint (m:=i) h.top hk qle).top (fun j hl hc=>by
  by_cases hj : j < w.heap.size
  · rw [qAc hj] at hc;exact ⟨hj,hc⟩
  · rw [qAl (by omega) hl] at hc;omega)
end
def tch (ls : List Lf) : Nat → Ag
 | 0=>Ag.none
 | k + 1=>if (ls[k]?.getD Lf.zero).kind ≠ 0 then (tch ls k).touch k else tch ls k
theorem qHO (ls : List Lf) : ∀ k,(tch ls k).q.Nodup ∧ (∀ s,s ∈ (tch ls k).q ↔ s < k ∧ (ls[s]?.getD Lf.zero).kind ≠ 0) ∧ (tch ls k).ticks ≤ k
 | 0=>⟨List.nodup_nil,fun s=>⟨fun h=>(by cases h),fun h=>absurd h.1 (by omega)⟩,Nat.le_refl _⟩
 | k + 1=>by
  obtain ⟨h1,h2,h3⟩:=qHO ls k
  unfold tch
  split
  · rename_i hk
    refine ⟨qEc h1 k,fun s=>?_,by rw [qEb];omega⟩
    rw [qG8 h1,h2]
    constructor
    · rintro (e | ⟨e1,e2⟩)
      · subst e;exact ⟨by omega,hk⟩
      · exact ⟨by omega,e2⟩
    · rintro ⟨e1,e2⟩
      by_cases e : s = k
      · exact .inl e
      · exact .inr ⟨by omega,e2⟩
  · rename_i hk
    refine ⟨h1,fun s=>?_,by omega⟩
    rw [h2]
    constructor
    · rintro ⟨e1,e2⟩;exact ⟨by omega,e2⟩
    · rintro ⟨e1,e2⟩
      refine ⟨?_,e2⟩
      by_cases e : s = k
      · subst e;exact absurd e2 hk
      · omega
theorem qQ7 (ls : List Lf) (k : Nat) : (tch ls k).q.length ≤ k:=by
 obtain ⟨h1,h2,_⟩:=qHO ls k
 exact qFD k _ h1 (fun s hs=>((h2 s).1 hs).1)
def Wd.fresh (x : Wd) (ls : List Lf) : Bx:=⟨x,x.c.boots,0,⟨ls,ls,tch ls ls.length,false⟩⟩
def Bx.openR (r : Int × Bx) : Int × Wd × Option Bx:=if r.1 ≠ 0 then (r.1,r.2.x,none) else (0,r.2.x,some r.2)
def Wd.opensL (x : Wd) : Option (List Lf) → Int × Wd × Option Bx
 | none=>(3,x.loadX,none)
 | some ls=>Bx.openR (x.loadX.fresh ls).finish
def Wd.opens (x : Wd) : Int × Wd × Option Bx :=
 if x.p.gone then (7,x,none)
 else if x.p.spend.1 = false then (7,x.boot,none)
 else x.boot.opensL x.boot.loadO
theorem qLG {x : Wd} {a : Nat} {top : qAB} {ls : List Lf} (h : x.areaGet a top = some ls) : ls.length = x.n ∧ qB7 ls:=by
 unfold Wd.areaGet at h
 split at h
 · obtain ⟨h1,h2⟩:=qFZ _ _ _ h
   rw [qBa] at h1
   refine ⟨h1,fun i y hy=>?_⟩
   have hi:=(List.getElem?_eq_some_iff.1 hy).1
   obtain ⟨r,hr⟩ : ∃ r,(x.areaRows a)[i]? = some r:=⟨_,List.getElem?_eq_getElem (by rw [qBa];omega)⟩
   have h3:=h2 i r y hr hy
   unfold qBU at h3
   split at h3
   · rename_i h4
     cases h3
     rw [Nat.zero_add] at h4
     have:=h4.2.1
     simpa using this
   · cases h3
 · cases h
theorem qKB (n : Nat) (hn : n ≤ 16) : qB7 (List.replicate n Lf.zero):=fun s y hy=>by
 obtain ⟨h2,h3⟩:=List.getElem?_eq_some_iff.1 hy
 rw [List.getElem_replicate] at h3
 rw [List.length_replicate] at h2
 subst h3
 unfold qAR
 simp [Lf.zero]
 omega
theorem qKC {x : Wd} (hn : x.n ≤ 16) {ls : List Lf} (h : x.loadO = some ls) : ls.length = x.n ∧ qB7 ls:=by
 unfold Wd.loadO at h
 split at h
 · cases h
   exact ⟨List.length_replicate,qKB _ hn⟩
 · split at h
   · cases h
   · exact qLG h
theorem qF6 {x : Wd} {m : Nat} (f : x.fine m) (hp : 0#32 < qAi x.eps) {ls : List Lf} (hl : ls.length = x.n) (ho : qB7 ls) : (x.fresh ls).good (m + 16):=by
 have h16:=qAm f.ok.sl
 obtain ⟨h1,h2,h3⟩:=qHO ls ls.length
 refine ⟨⟨f.up (by omega),Nat.zero_le _,hl,hl,ho,ho⟩,h1,fun s=>?_,by show (tch ls ls.length).ticks ≤ _;omega,hp⟩
 show s ∈ (tch ls ls.length).q ↔ (ls[s]?.getD Lf.zero).kind ≠ 0
 rw [h2]
 constructor
 · exact fun e=>e.2
 · intro e
   refine ⟨?_,e⟩
   by_cases hs : s < ls.length
   · exact hs
   · rw [List.getElem?_eq_none (by omega)] at e
     exact absurd rfl e
theorem qQ8 {x : Wd} (h : x.p.spend.1 = true) : x.boot.p.gone = false:=by
 have e : x.boot.p = x.p.spend.2:=by unfold Wd.boot;rfl
 rw [e]
 exact (qHN h).2
def qF7 (col : Nat → Nat) (w : World) (P : qAQ) (o : Option Bx) (x : Wd) (v : Value) : Prop:=match o with
 | none=>v = .pointer none ∧ qAS col w P x
 | some B=>∃ M C,v = .pointer (some ⟨C,0,none⟩) ∧ qCG col w P M C B
theorem qNk {col : Nat → Nat} {w w1 w2 w3 w4 w5 : World} {P : qAQ} {x : Wd} {N g1 c1 g2 c2 A : Nat} {ls : List Lf} {col5 : Nat → Nat}
 (hW : qAS col w1 P x) (hx : Ext 6 col col w w1) (hT : Top col w) (hr : w1.ownsRow w.heap.size 117 8 (.slice (some ⟨g1,0,none⟩) N c1) N (qAu ls)) (hN : N = ls.length)
 (hm : qJ6 w4 w3.heap.size x.c.boots 0) (k3 : qA4 w1 w3) (k4 : qA4 w3 w4) (hr2 : w2.ownsRow w4.heap.size 117 8 (.slice (some ⟨g2,0,none⟩) N c2) N (qAu ls)) (k2 : qA4 w4 w2)
 (ha : qJM col5 w5 A ⟨List.replicate 16 0,0,[]⟩) (o : One 11 (qAj (qAj (dye col g1 10) 8 w3 w4) 10 w4 w2) col5 w2 w5) :
 qBh (qAj col5 9 w5 (w5.alloc (.cells #[.pointer (some ⟨P.W,0,none⟩),.pointer (some ⟨w3.heap.size,0,none⟩),.slice (some ⟨g1,0,none⟩) N c1,.slice (some ⟨g2,0,none⟩) N c2,.pointer (some ⟨A,0,none⟩),.bool false] 121))) (w5.alloc (.cells #[.pointer (some ⟨P.W,0,none⟩),.pointer (some ⟨w3.heap.size,0,none⟩),.slice (some ⟨g1,0,none⟩) N c1,.slice (some ⟨g2,0,none⟩) N c2,.pointer (some ⟨A,0,none⟩),.bool false] 121)) P w3.heap.size w5.heap.size A (.slice (some ⟨g1,0,none⟩) N c1) (.slice (some ⟨g2,0,none⟩) N c2) ⟨x,x.c.boots,0,⟨ls,ls,Ag.none,false⟩⟩ ∧ Ext 11 col (qAj col5 9 w5 (w5.alloc (.cells #[.pointer (some ⟨P.W,0,none⟩),.pointer (some ⟨w3.heap.size,0,none⟩),.slice (some ⟨g1,0,none⟩) N c1,.slice (some ⟨g2,0,none⟩) N c2,.pointer (some ⟨A,0,none⟩),.bool false] 121))) w (w5.alloc (.cells #[.pointer (some ⟨P.W,0,none⟩),.pointer (some ⟨w3.heap.size,0,none⟩),.slice (some ⟨g1,0,none⟩) N c1,.slice (some ⟨g2,0,none⟩) N c2,.pointer (some ⟨A,0,none⟩),.bool false] 121)):=by
 have hg1 : g1 < w1.heap.size:=qAo hr rfl
 have hge1 : w.heap.size ≤ g1:=qAM hr rfl
 have c0 : col g1 = 0:=hT _ hge1
 have z3:=k3.size
 have z4:=k4.size
 have z2:=k2.size
 have hD:=(hW.dye c0 hg1 (i:=10) (by decide)).kept k3
 have hP8:=hD.paint k4 (i:=8) (by decide)
 have hWM : WM (qAj (dye col g1 10) 8 w3 w4) w4 P x w3.heap.size x.c.boots 0:=⟨hP8,hm,qAl qle (Blk.lt hm)⟩
 have hWM2:=hWM.paint k2 (i:=10) (by decide)
 have hWM5:=hWM2.one o (by decide)
 have k6 : qA4 w5 (w5.alloc (.cells #[.pointer (some ⟨P.W,0,none⟩),.pointer (some ⟨w3.heap.size,0,none⟩),.slice (some ⟨g1,0,none⟩) N c1,.slice (some ⟨g2,0,none⟩) N c2,.pointer (some ⟨A,0,none⟩),.bool false] 121)):=qal _
 have hWM6:=hWM5.paint k6 (i:=9) (by decide)
 have e1 : Ext 11 col (dye col g1 10) w w1:=(hx.mono (by decide)).dye hge1 hg1 (by decide)
 have e3 : Ext 11 (dye col g1 10) (dye col g1 10) w1 w3:=Ext.kept (Top.dye hW.top hg1) k3
 have e4 : Ext 11 (dye col g1 10) (qAj (dye col g1 10) 8 w3 w4) w3 w4:=Ext.paint e3.top k4 (by decide)
 have e2 : Ext 11 (qAj (dye col g1 10) 8 w3 w4) (qAj (qAj (dye col g1 10) 8 w3 w4) 10 w4 w2) w4 w2:=Ext.paint e4.top k2 (by decide)
 have e5 : Ext 11 (qAj (qAj (dye col g1 10) 8 w3 w4) 10 w4 w2) col5 w2 w5:=o.ext (by decide) (by decide)
 have e6 : Ext 11 col5 (qAj col5 9 w5 (w5.alloc (.cells #[.pointer (some ⟨P.W,0,none⟩),.pointer (some ⟨w3.heap.size,0,none⟩),.slice (some ⟨g1,0,none⟩) N c1,.slice (some ⟨g2,0,none⟩) N c2,.pointer (some ⟨A,0,none⟩),.bool false] 121))) w5 (w5.alloc (.cells #[.pointer (some ⟨P.W,0,none⟩),.pointer (some ⟨w3.heap.size,0,none⟩),.slice (some ⟨g1,0,none⟩) N c1,.slice (some ⟨g2,0,none⟩) N c2,.pointer (some ⟨A,0,none⟩),.bool false] 121)):=Ext.paint e5.top k6 (by decide)
 have z5:=e5.size
 have cg1 : col5 g1 = 10:=by
  rw [e5.old _ (by omega),e2.old _ (by omega),e4.old _ (by omega)]
  exact qFE
 have hg2 : g2 < w2.heap.size:=qAo hr2 rfl
 have hge2 : w4.heap.size ≤ g2:=qAM hr2 rfl
 have cg2' : qAj (qAj (dye col g1 10) 8 w3 w4) 10 w4 w2 g2 = 10:=qAl hge2 hg2
 have cg2 : col5 g2 = 10:=by rw [e5.old _ hg2];exact cg2'
 have cg1' : qAj (qAj (dye col g1 10) 8 w3 w4) 10 w4 w2 g1 = 10:=by
  rw [e2.old _ (by omega),e4.old _ (by omega)]
  exact qFE
 have s10:=o.same (j:=10) (by decide)
 have n5:=s10.own (qA3 (qA3 (qA3 hr k3) k4) k2) (fun g hg=>by cases hg;exact cg1')
 have v5:=s10.own hr2 (fun g hg=>by cases hg;exact cg2')
 refine ⟨⟨hWM6,Blk.new w5 _ _,qAl qle (Blk.new w5 #[.pointer (some ⟨P.W,0,none⟩),.pointer (some ⟨w3.heap.size,0,none⟩),.slice (some ⟨g1,0,none⟩) N c1,.slice (some ⟨g2,0,none⟩) N c2,.pointer (some ⟨A,0,none⟩),.bool false] 121).lt,(by show World.ownsRow _ 0 117 8 _ ls.length _;rw [← hN];exact qAg (qA3 n5 k6) (Nat.zero_le _)),(by show World.ownsRow _ 0 117 8 _ ls.length _;rw [← hN];exact qAg (qA3 v5 k6) (Nat.zero_le _)),fun g hg=>?_,fun g hg=>?_,fun g hg e=>?_,ha.frame (qAZ.paint k6)⟩,((((e1.trans e3).trans e4).trans e2).trans e5).trans e6⟩
 · cases hg
   rw [qAc (show g1 < w5.heap.size by omega)]
   exact cg1
 · cases hg
   rw [qAc (show g2 < w5.heap.size by omega)]
   exact cg2
 · cases hg
   have e' : g2 = g1:=by simpa [Value.ownBlock] using e
   omega
theorem qNl {col : Nat → Nat} {w : World} {P : qAQ} {x : Wd} {m : Nat} (h : qAS col w P x) (f : x.fine m) (hm : m ≤ 38000) (hp : 0#32 < qAi x.eps) :
 Calls prog 24 #[.pointer (some ⟨P.W,0,none⟩)] w fun e w'=>∃ v col',e = .returned (.tuple #[v,.int .i64 x.opens.1]) ∧ qF7 col' w' P x.opens.2.2 x.opens.2.1 v ∧ Ext 11 col col' w w':=by
 have bW:=h.blk
 have q1:=bW.cell 1
 have q4:=bW.cell 4
 have CO:=qFt h
 have CB:=qPV h f.ok (by omega)
 obtain ⟨R,hR⟩ : ∃ R,R = x.opens:=⟨_,rfl⟩
 rw [← hR]
 have hr0 : R = if x.p.gone then (7,x,none) else if x.p.spend.1 = false then (7,x.boot,none) else x.boot.opensL x.boot.loadO:=hR
 have hon:=qQ8 (x:=x)
 have hn16:=qAm f.ok.sl
 obtain ⟨G,hG⟩ : ∃ G,G = x.p.gone:=⟨_,rfl⟩
 obtain ⟨S,hS⟩ : ∃ S,S = x.p.spend.1:=⟨_,rfl⟩
 rw [← hG] at CO hr0
 rw [← hS] at CB hr0 hon
 replace hr0:=qh hr0
 replace hon:=qh hon
 replace hn16:=qh hn16
 clear hR hG hS
 cases G with
 | true =>
  have hr : R = (7,x,none):=by rw [hr0.out,if_pos rfl]
  subst hr
  go_enter func24,ntmps24
  go_wp2_with fail
  refine CO.mono ?_
  rintro e w1 ⟨rfl,rfl⟩
  go_wp2_with fail
  refine bodyPost_ret (v:=.tuple #[.pointer none,.int .i64 7]) (by simp [results,results24,go_sem];done) rfl ⟨_,col,rfl,⟨rfl,h⟩,Ext.refl h.top⟩
 | false =>
 have hr1 : R = if S = false then (7,x.boot,none) else x.boot.opensL x.boot.loadO:=by rw [hr0.out,if_neg (by decide)]
 replace hr1:=qh hr1
 clear hr0
 cases S with
 | false =>
  have hr : R = (7,x.boot,none):=by rw [hr1.out,if_pos rfl]
  subst hr
  go_enter func24,ntmps24
  go_wp2_with fail
  refine CO.mono ?_
  rintro e w1 ⟨rfl,rfl⟩
  go_wp2_with fail
  refine CB.mono ?_
  rintro e w2 ⟨rfl,col2,hW2,e2⟩
  go_wp2_with fail
  refine bodyPost_ret (v:=.tuple #[.pointer none,.int .i64 7]) (by simp [results,results24,go_sem];done) rfl ⟨_,col2,rfl,⟨rfl,hW2⟩,e2.mono (by decide)⟩
 | true =>
 have hr2 : R = x.boot.opensL x.boot.loadO:=by rw [hr1.out,if_neg (by decide)]
 replace hr2:=qh hr2
 have fb:=f.boot
 have hpb : 0#32 < qAi x.boot.eps:=hp
 obtain ⟨y,hy⟩ : ∃ y,y = x.boot:=⟨_,rfl⟩
 rw [← hy] at CB hr2 fb hpb hon
 have hny : y.n = x.n:=by rw [hy];rfl
 replace hny:=qh hny
 clear hr1 hy
 go_enter func24,ntmps24
 go_wp2_with fail
 refine CO.mono ?_
 rintro e w1 ⟨rfl,rfl⟩
 go_wp2_with fail
 refine CB.mono ?_
 rintro e w2 ⟨rfl,col2,hW2,e2⟩
 have CL:=qJJ hW2 fb (by omega) (hon.out trivial)
 obtain ⟨o,ho⟩ : ∃ o,o = y.loadO:=⟨_,rfl⟩
 have hlo : ∀ ls,y.loadO = some ls → ls.length = y.n ∧ qB7 ls:=fun ls=>qKC (x:=y) (by rw [hny.out];have:=hn16.out;omega)
 rw [← ho] at CL hr2 hlo
 replace hlo:=qh hlo
 clear q1 q4 ho
 cases o with
 | none =>
  have hr : R = (3,y.loadX,none):=hr2.out
  replace hr:=qh hr
  have CL2 : Calls prog 44 #[.pointer (some ⟨P.W,0,none⟩)] w2 fun e w'=>∃ v,e = .returned (.tuple #[v,.int .i64 3]) ∧ qAS col2 w' P y.loadX ∧ Ext 6 col2 col2 w2 w':=CL.mono (by rintro e w' ⟨v,h1,_,h3,h4⟩;exact ⟨v,h1,h3,h4⟩)
  clear CL
  go_wp2_with fail
  refine CL2.mono ?_
  rintro e w3 ⟨v,rfl,hW3,e3⟩
  go_wp2_with fail
  refine bodyPost_ret (v:=.tuple #[.pointer none,.int .i64 3]) (by simp [results,results24,go_sem];done) rfl ⟨_,col2,by rw [hr.out],by rw [hr.out];exact ⟨rfl,hW3⟩,(e2.trans e3).mono (by decide)⟩
 | some ls =>
  have hr : R = Bx.openR (y.loadX.fresh ls).finish:=hr2.out
  obtain ⟨hll,hlk⟩:=hlo.out ls rfl
  have CL2 : Calls prog 44 #[.pointer (some ⟨P.W,0,none⟩)] w2 fun e w'=>∃ v,e = .returned (.tuple #[v,.int .i64 0]) ∧ w'.ownsRow w2.heap.size 117 8 v ls.length (qAu ls) ∧ qAS col2 w' P y.loadX ∧ Ext 6 col2 col2 w2 w':=CL.mono (by rintro e w' ⟨v,h1,h2,h3,h4⟩;exact ⟨v,h1,h2 ls rfl,h3,h4⟩)
  have fX:=fb.loadX
  have hXp : y.loadX.p.gone = false:=by rw [qBH.2.2.2.2.1];exact hon.out trivial
  have hXe : 0#32 < qAi y.loadX.eps:=by rw [qBH.2.1];exact hpb
  have hXn : ls.length = y.loadX.n:=by rw [qBH.1];exact hll
  have gX:=qF6 fX hXe hXn hlk
  obtain ⟨X,hX⟩ : ∃ X,X = y.loadX:=⟨_,rfl⟩
  rw [← hX] at CL2 hr fX hXp gX
  have hcb:=fX.ok.cb
  have hlen : 0 < ls.length ∧ ls.length ≤ 16:=by have h1:=hn16.out;rw [hll,hny.out];omega
  replace hr:=qh hr
  replace hlk:=qh hlk
  replace hXp:=qh hXp
  have hlen1:=hlen.1
  have hlen2:=hlen.2
  obtain ⟨N,hN⟩ : ∃ N,N = ls.length:=⟨_,rfl⟩
  rw [← hN] at CL2 hlen1 hlen2
  have HN:=qh hN
  clear CL hlo hr2 hX hXe hXn hll hn16 hlen hN hny
  go_wp2_with fail
  refine CL2.mono ?_
  rintro e w3 ⟨v,rfl,hv,hW3,e3⟩
  obtain ⟨g1,c1,rfl⟩:=qAx hv hlen1
  have bW3:=hW3.blk
  have q4:=bW3.cell 4
  have CBo:=qOG hW3
  have hcb2 : X.c.boots.toNat ≤ 4294967295:=by omega
  have CM:=qM2 X.c.boots hcb2 w3
  replace hcb2:=qh hcb2
  replace hcb:=qh hcb
  go_wp2_with fail
  refine CBo.mono ?_
  rintro e w4 ⟨rfl,rfl⟩
  go_wp2_with fail
  refine CM.mono ?_
  rintro e w4 ⟨rfl,hM4,k4⟩
  clear q4
  have CC:=qKw g1 c1 ls (by rw [← HN.out];omega) w4 (by rw [← HN.out];exact qAg (qA3 hv k4) (Nat.zero_le _))
  rw [← HN.out] at CC
  go_wp2_with fail
  refine CC.mono ?_
  rintro e w5 ⟨v2,rfl,hv2,k5⟩
  obtain ⟨g2,c2,rfl⟩:=qAx hv2 hlen1
  have hg1 : g1 < w3.heap.size:=qAo hv rfl
  have hge1 : w2.heap.size ≤ g1:=qAM hv rfl
  have cz : col2 g1 = 0:=e2.top _ hge1
  have hD:=hW3.dye cz hg1 (i:=10) (by decide)
  have hP8:=hD.paint k4 (i:=8) (by decide)
  have hP10:=hP8.paint k5 (i:=10) (by decide)
  go_wp2_with fail
  refine (qHI hP10.top).mono ?_
  rintro e w6 ⟨A,col6,rfl,hA,o6,_,_⟩
  obtain ⟨hB,eB⟩:=qNk (w:=w2) (col:=col2) hW3 e3 e2.top hv HN.out hM4 (Below.refl _ _) k4 hv2 k5 hA o6
  have eBB:=(e2.mono (show 6 ≤ 11 by decide)).trans eB
  go_wp2_with fail
  generalize (w6.alloc (.cells #[.pointer (some ⟨P.W,0,none⟩),.pointer (some ⟨w3.heap.size,0,none⟩),.slice (some ⟨g1,0,none⟩) N c1,.slice (some ⟨g2,0,none⟩) N c2,.pointer (some ⟨A,0,none⟩),.bool false] 121)) = wQ at *
  generalize (qAj col6 9 w6 wQ) = colQ at *
  generalize w6.heap.size = C at *
  generalize w3.heap.size = M at *
  go_loopw [59] (fun i wr=>∃ (k : Nat) (ck : Nat → Nat),i = .int .i64 k ∧ k ≤ N ∧ qBh ck wr P M C A (.slice (some ⟨g1,0,none⟩) N c1) (.slice (some ⟨g2,0,none⟩) N c2) ⟨X,X.c.boots,0,⟨ls,ls,tch ls k,false⟩⟩ ∧ Ext 11 col ck w wr) (fun i _=>N - (intOf i).toNat)
  case atStart=>exact ⟨0,colQ,rfl,by omega,hB,eBB⟩
  case round =>
   obtain ⟨k,ck,rfl,hk,hb,eb⟩:=hrel
   by_cases hlt : k < N
   · have m1 : (k : Int) < (N : Int):=by omega
     have m2 : (0 : Int) ≤ (k : Int):=by omega
     have hkl : k < ls.length:=by rw [← HN.out];exact hlt
     obtain ⟨y,hy⟩ : ∃ y,y = ls[k]:=⟨_,rfl⟩
     have hky : ls[k]? = some y:=by rw [List.getElem?_eq_getElem hkl,hy]
     have hrow:=hb.now
     rw [show (⟨ls,ls,tch ls k,false⟩ : Ca).now.length = N from HN.out.symm] at hrow
     have hw:=qBP hrow k y hky
     have d0 : wr.cell? ⟨g1,k * 8,none⟩ = some (.int .i64 y.kind):=hw 0 _ rfl
     have d1 : wr.cell? ⟨g1,k * 8 + 1,none⟩ = some (.bool y.dirty):=hw 1 _ rfl
     have d2 : wr.cell? ⟨g1,k * 8 + 2,none⟩ = some (.int .i64 y.lba):=hw 2 _ rfl
     have d3 : wr.cell? ⟨g1,k * 8 + 3,none⟩ = some (W y.ep):=hw 3 _ rfl
     have d4 : wr.cell? ⟨g1,k * 8 + 4,none⟩ = some (W y.sl):=hw 4 _ rfl
     have d5 : wr.cell? ⟨g1,k * 8 + 5,none⟩ = some (U y.ver):=hw 5 _ rfl
     have d6 : wr.cell? ⟨g1,k * 8 + 6,none⟩ = some (U y.tag.1):=hw 6 _ rfl
     have d7 : wr.cell? ⟨g1,k * 8 + 7,none⟩ = some (U y.tag.2):=hw 7 _ rfl
     have hkA : qA4 wr (wr.alloc (.cells #[.int .i64 y.kind,.bool y.dirty,.int .i64 y.lba,W y.ep,W y.sl,U y.ver,U y.tag.1,U y.tag.2] 117)):=qal _
     have hbA:=hb.kept hkA
     have ebA:=eb.trans (Ext.kept (m:=11) hb.top hkA)
     have hst : tch ls (k + 1) = if y.kind ≠ 0 then (tch ls k).touch k else tch ls k:=by
      conv=>lhs;unfold tch
      rw [hky];rfl
     have htl:=qQ7 ls k
     have htk:=(qHO ls k).2.2
     replace hst:=qh hst
     have q4:=hbA.blk.cell 4
     clear hy hky hw hrow
     by_cases hk0 : y.kind = 0
     · have hn1 : tch ls (k + 1) = tch ls k:=by rw [hst.out,if_neg (by rw [hk0];decide)]
       replace hn1:=qh hn1
       rw [hk0] at d0 hbA ebA
       clear hk0 hkA q4
       go_wp2_with fail
       exact ⟨⟨k + 1,ck,rfl,by omega,by rw [hn1.out];exact hbA,ebA⟩,by simp [intOf];omega⟩
     · have hn1 : tch ls (k + 1) = (tch ls k).touch k:=by rw [hst.out,if_pos hk0]
       replace hn1:=qh hn1
       have CT:=qF5 hbA.age hbA.top k (by omega) (by show (tch ls k).q.length ≤ _;omega) (by show (tch ls k).ticks ≤ _;omega)
       go_wp2_with fail
       refine CT.mono ?_
       rintro e w9 ⟨rfl,c9,h9,o9⟩
       go_wp2_with fail
       exact ⟨⟨k + 1,c9,rfl,by omega,by rw [hn1.out];exact hbA.aged h9 o9,ebA.trans (o9.ext (by decide) (by decide))⟩,by simp [intOf];omega⟩
   · have m3 : ¬ (k : Int) < (N : Int):=by omega
     have hkN : k = ls.length:=by rw [← HN.out];omega
     have hb2 : qCG ck wr P M C (X.fresh ls):=by
      subst hkN
      exact ⟨A,_,_,hb⟩
     have CFi:=qNe hb2 gX (by omega) hXp.out
     obtain ⟨F,hF⟩ : ∃ F,F = (X.fresh ls).finish:=⟨_,rfl⟩
     rw [← hF] at CFi
     have hr3 : R = Bx.openR F:=by rw [hr.out,hF]
     obtain ⟨E,B⟩:=F
     simp only at CFi
     replace hr3:=qh hr3
     clear hlt hkN hF
     go_wp2_with fail
     refine CFi.mono ?_
     rintro e w9 ⟨rfl,c9,h9,e9⟩
     by_cases hE : E = 0
     · have hr4 : R = (0,B.x,some B):=by rw [hr3.out];unfold Bx.openR;rw [if_neg (fun e=>e hE)]
       replace hr4:=qh hr4
       go_wp2_with fail
       refine bodyPost_ret (v:=.tuple #[.pointer (some ⟨C,0,none⟩),.int .i64 0]) (by simp [results,results24,go_sem];done) rfl ⟨_,c9,by rw [hr4.out],by rw [hr4.out];exact ⟨M,C,rfl,h9⟩,eb.trans e9⟩
     · have hr4 : R = (E,B.x,none):=by rw [hr3.out];unfold Bx.openR;rw [if_pos hE]
       replace hr4:=qh hr4
       go_wp2_with fail
       refine bodyPost_ret (v:=.tuple #[.pointer none,.int .i64 E]) (by simp [results,results24,go_sem];done) rfl ⟨_,c9,by rw [hr4.out],by rw [hr4.out];obtain ⟨A9,n9,w9,h9⟩:=h9;exact ⟨rfl,h9.wm.wd⟩,eb.trans e9⟩
def Wd.new (n : Nat) (seed : BitVec 64) (ideal : Bool) : Wd:=⟨n,Pw.new,⟨Pw.new,List.replicate (gSize n) 0,[],[]⟩,⟨Pw.new,List.replicate 32 (List.replicate 32 0),[],[],false⟩,Cn.zero,seed,[1#32],if ideal then .ideal [] [] else .real⟩
theorem qIF (m : Nat) : Pw.new.ok m:=⟨by decide,by show (0 : Int) ≤ m;omega,fun hf=>by cases hf⟩
theorem Wd.new_fine (n : Nat) (seed : BitVec 64) (ideal : Bool) (hs : qDR (n : Int) = true) : (Wd.new n seed ideal).fine 0:=by
 refine ⟨⟨hs,⟨List.length_replicate,fun x hx=>(by cases hx),fun x hx=>(by cases hx),Nat.le_refl _,Nat.le_refl _,qIF 0⟩,⟨List.length_replicate,fun x hx=>?_,fun x hx=>(by cases hx),fun x hx=>(by cases hx),Nat.le_refl _,Nat.le_refl _,qIF 0⟩,(by show 0 < [1#32].length;decide),(by show [1#32].length ≤ 1;decide),List.pairwise_singleton _ _,(by show (qAi [1#32]).toNat ≤ 1;decide),(by show Cn.zero.value.toNat ≤ 0;decide),(by show Cn.zero.boots.toNat ≤ 0;decide)⟩,?_,?_⟩
 · rw [List.eq_of_mem_replicate hx]
   exact List.length_replicate
 · show Lk.few (if ideal then .ideal [] [] else .real) 0
   cases ideal
   · trivial
   · exact ⟨Nat.le_refl _,Nat.le_refl _⟩
 · show Lk.dataOk (if ideal then .ideal [] [] else .real)
   cases ideal
   · trivial
   · intro x hx
     cases hx
theorem qH1 {w w1 w2 w3 z2 z3 z4 z5 z6 z7 : World} {n : Nat} {seed : BitVec 64} {lk : Lk} {L S Dd : Nat} {s : Sd} {d : Dk}
 (_ : s.p = Pw.new) (_ : d.p = Pw.new)
 (p1 : qCU w1 w.heap.size Pw.new) (k1 : qA4 w w1) (n1 : w1.heap.size = w.heap.size + 1) (k2 : qA4 w1 w2)
 (k3 : qA4 w2 w3) (hl : LkC (qAj (qAj (fun _=>0) 6 w w1) 5 w2 w3) w3 L lk) (kz : qA4 w3 z2)
 (hS : qGr (But (qAj (qAj (fun _=>0) 6 w w1) 5 w2 w3) z2 1) z3 S w.heap.size s) (k4 : qA4 z2 z3)
 (hD : qIU (But (qAj (qAj (qAj (fun _=>0) 6 w w1) 5 w2 w3) 1 z2 z3) z3 2) z4 Dd w.heap.size d) (k5 : qA4 z3 z4)
 (hC : qHi z5 z4.heap.size w.heap.size Cn.zero) (k6 : qA4 z4 z5)
 (hK : qBm 96 z6 (z5.heap.size + 1) w.heap.size z5.heap.size seed [1#32] 1) (k7 : qA4 z5 z6)
 (hW : Blk z7 z6.heap.size #[.int .i64 n,.pointer (some ⟨w.heap.size,0,none⟩),.pointer (some ⟨S,0,none⟩),.pointer (some ⟨Dd,0,none⟩),.pointer (some ⟨z4.heap.size,0,none⟩),.pointer (some ⟨z5.heap.size + 1,0,none⟩),.pointer (some ⟨L,0,none⟩)] 67) (k8 : qA4 z6 z7) :
 ∃ col',qAS col' z7 ⟨z6.heap.size,w.heap.size,S,Dd,z4.heap.size,z5.heap.size + 1,L⟩ ⟨n,Pw.new,s,d,Cn.zero,seed,[1#32],lk⟩ ∧ Ext 7 (fun _=>0) col' w z7:=by
 have t0 : Top (fun _ : Nat=>0) w:=fun _ _=>rfl
 have e1 : Ext 7 (fun _=>0) (qAj (fun _=>0) 6 w w1) w w1:=Ext.paint t0 k1 (by decide)
 have e2 : Ext 7 (qAj (fun _=>0) 6 w w1) (qAj (fun _=>0) 6 w w1) w1 w2:=Ext.kept e1.top k2
 have e3 : Ext 7 (qAj (fun _=>0) 6 w w1) (qAj (qAj (fun _=>0) 6 w w1) 5 w2 w3) w2 w3:=Ext.paint e2.top k3 (by decide)
 obtain ⟨A,hA⟩ : ∃ A,A = qAj (qAj (fun _=>0) 6 w w1) 5 w2 w3:=⟨_,rfl⟩
 rw [← hA] at hl hS hD e3
 have ez : Ext 7 A A w3 z2:=Ext.kept e3.top kz
 have e4 : Ext 7 A (qAj A 1 z2 z3) z2 z3:=Ext.paint ez.top k4 (by decide)
 obtain ⟨B,hB⟩ : ∃ B,B = qAj A 1 z2 z3:=⟨_,rfl⟩
 have e5 : Ext 7 B (qAj B 2 z3 z4) z3 z4:=Ext.paint (by rw [hB];exact e4.top) k5 (by decide)
 obtain ⟨C2,hC2⟩ : ∃ C,C = qAj B 2 z3 z4:=⟨_,rfl⟩
 have e6 : Ext 7 C2 (qAj C2 3 z4 z5) z4 z5:=Ext.paint (by rw [hC2];exact e5.top) k6 (by decide)
 obtain ⟨D2,hD2⟩ : ∃ C,C = qAj C2 3 z4 z5:=⟨_,rfl⟩
 have e7 : Ext 7 D2 (qAj D2 4 z5 z6) z5 z6:=Ext.paint (by rw [hD2];exact e6.top) k7 (by decide)
 obtain ⟨E2,hE2⟩ : ∃ C,C = qAj D2 4 z5 z6:=⟨_,rfl⟩
 have e8 : Ext 7 E2 (qAj E2 7 z6 z7) z6 z7:=Ext.paint (by rw [hE2];exact e7.top) k8 (by decide)
 obtain ⟨F2,hF2⟩ : ∃ C,C = qAj E2 7 z6 z7:=⟨_,rfl⟩
 have sz2:=k2.size
 have sz3:=k3.size
 have szz:=kz.size
 have sz4:=k4.size
 have sz5:=k5.size
 have sz6:=k6.size
 have sz7:=k7.size
 have sz8:=k8.size
 have o1 : ∀ k,qAj (fun _ : Nat=>0) 6 w w1 k = 6 → k = w.heap.size:=fun k hk=>by
  unfold qAj at hk
  split at hk
  · omega
  · cases hk
 have step : ∀ (c : Nat → Nat) (i : Nat) (u u' : World),i ≠ 6 → (∀ k,c k = 6 → k = w.heap.size) → ∀ k,qAj c i u u' k = 6 → k = w.heap.size:=fun c i u u' hi h k hk=>by
  unfold qAj at hk
  split at hk
  · exact absurd hk hi
  · exact h k hk
 have oA : ∀ k,A k = 6 → k = w.heap.size:=by rw [hA];exact step _ _ _ _ (by decide) o1
 have oB : ∀ k,B k = 6 → k = w.heap.size:=by rw [hB];exact step _ _ _ _ (by decide) oA
 have oC : ∀ k,C2 k = 6 → k = w.heap.size:=by rw [hC2];exact step _ _ _ _ (by decide) oB
 have oD : ∀ k,D2 k = 6 → k = w.heap.size:=by rw [hD2];exact step _ _ _ _ (by decide) oC
 have oE : ∀ k,E2 k = 6 → k = w.heap.size:=by rw [hE2];exact step _ _ _ _ (by decide) oD
 have oF : ∀ k,F2 k = 6 → k = w.heap.size:=by rw [hF2];exact step _ _ _ _ (by decide) oE
 obtain ⟨hSc,_⟩:=qNM.of_at hS (fun k _ hk=>oA k hk) sz4
 rw [← hB] at hSc hD
 obtain ⟨hDc,_⟩:=DkC.of_at hD (fun k _ hk=>oB k hk) sz5
 rw [← hC2] at hDc
 have sB (j : Nat) : qAZ j A B z2 z3:=by rw [hB];exact qAZ.paint k4
 have sC (j : Nat) : qAZ j B C2 z3 z4:=by rw [hC2];exact qAZ.paint k5
 have sD (j : Nat) : qAZ j C2 D2 z4 z5:=by rw [hD2];exact qAZ.paint k6
 have sE (j : Nat) : qAZ j D2 E2 z5 z6:=by rw [hE2];exact qAZ.paint k7
 have sF (j : Nat) : qAZ j E2 F2 z6 z7:=by rw [hF2];exact qAZ.paint k8
 have pz2 : qCU z2 w.heap.size Pw.new:=Blk.kept (Blk.kept (Blk.kept p1 k2) k3) kz
 have pz7 : qCU z7 w.heap.size Pw.new:=Blk.kept (Blk.kept (Blk.kept (Blk.kept (Blk.kept pz2 k4) k5) k6) k7) k8
 have sB1:=(((sC 1).trans (sD 1)).trans (sE 1)).trans (sF 1)
 have sC2:=((sD 2).trans (sE 2)).trans (sF 2)
 have hLk:=hl.frame ((((((qAZ.kept kz 5).trans (sB 5)).trans (sC 5)).trans (sD 5)).trans (sE 5)).trans (sF 5))
 have cP : F2 w.heap.size = 6:=by
  have h1 : qAj (fun _ : Nat=>0) 6 w w1 w.heap.size = 6:=qAl qle (by omega)
  have h2 : A w.heap.size = 6:=by rw [hA,qAc (by omega)];exact h1
  have h3 : B w.heap.size = 6:=by rw [hB,qAc (by omega)];exact h2
  have h4 : C2 w.heap.size = 6:=by rw [hC2,qAc (by omega)];exact h3
  have h5 : D2 w.heap.size = 6:=by rw [hD2,qAc (by omega)];exact h4
  have h6 : E2 w.heap.size = 6:=by rw [hE2,qAc (by omega)];exact h5
  rw [hF2,qAc (by omega)];exact h6
 have lC:=Blk.lt hC
 obtain ⟨cur,hg⟩:=hK.blkg
 have lK:=hK.blk.lt
 have lg:=hg.lt
 have cC : D2 z4.heap.size = 3:=by rw [hD2];exact qAl qle lC
 have cK : E2 (z5.heap.size + 1) = 4:=by rw [hE2];exact qAl (by omega) lK
 have cg : E2 z5.heap.size = 4:=by rw [hE2];exact qAl qle lg
 obtain ⟨bC,dC⟩:=((sE 3).trans (sF 3)).blk hC cC
 have hKc : qLd F2 z7 (z5.heap.size + 1) w.heap.size seed [1#32]:=qLd.frame ⟨_,_,hK,cK,cg⟩ (sF 4)
 refine ⟨F2,⟨hW,by rw [hF2];exact qAl qle hW.lt,pz7,cP,fun k _ hk=>oF k hk,?_,?_,bC,dC,hKc,hLk,by rw [hF2];exact e8.top⟩,?_⟩
 · have:=hSc.frame sB1 pz7
   exact this
 · have:=hDc.frame sC2 pz7
   exact this
 · rw [← hB] at e4
   rw [← hC2] at e5
   rw [← hD2] at e6
   rw [← hE2] at e7
   rw [← hF2] at e8
   exact ((((((((e1.trans e2).trans e3).trans ez).trans e4).trans e5).trans e6).trans e7).trans e8)
theorem qNm (n : Nat) (hsl : qDR (n : Int) = true) (seed : BitVec 64) (ideal : Bool) (w : World) :
 Calls prog 23 #[.int .i64 (n : Int),U seed,.bool ideal] w fun e w'=>∃ P col',e = .returned (.tuple #[.pointer (some ⟨P.W,0,none⟩),.int .i64 0]) ∧ qAS col' w' P (Wd.new n seed ideal) ∧ Ext 7 (fun _=>0) col' w w':=by
 have CI:=qE4 (n : Int) w
 rw [hsl] at CI
 have hgs : 0 < gSize n ∧ gSize n ≤ 60000:=by
  have:=qAm hsl
  unfold gSize;omega
 replace hgs:=qh hgs
 have hsl2:=qh hsl
 go_enter func23,ntmps23
 go_wp2_with fail
 refine CI.mono ?_
 rintro e w0 ⟨rfl,rfl⟩
 go_wp2_with fail
 refine (qM3 w).mono ?_
 rintro e w1 ⟨rfl,p1,k1,n1⟩
 go_wp2_with fail
 have k2 : qA4 w1 (w1.alloc (.cells #[.int .i64 (n : Int)] 59)):=qal _
 have bG:=Blk.new w1 #[.int .i64 (n : Int)] 59
 rw [n1] at bG
 replace n1:=qh n1
 generalize (w1.alloc (.cells #[.int .i64 (n : Int)] 59)) = w2 at *
 cases ideal with
 | false =>
  refine (qIl w2).mono ?_
  rintro e w3 ⟨L,f3,f4,rfl,hL,k3,hLz⟩
  have hl : LkC (qAj (qAj (fun _=>0) 6 w w1) 5 w2 w3) w3 L .real:=⟨f3,f4,hL,qAl hLz hL.lt⟩
  have sz1:=k1.size
  have sz2:=k2.size
  have sz3:=k3.size
  have hsP : w.heap.size < w3.heap.size:=Nat.lt_of_lt_of_le (Blk.lt p1) (Nat.le_trans sz2 sz3)
  obtain ⟨CL,hCL⟩ : ∃ c,c = qAj (qAj (fun _=>0) 6 w w1) 5 w2 w3:=⟨_,rfl⟩
  have cPL : CL w.heap.size = 6:=by
   rw [hCL,qAc (Nat.lt_of_lt_of_le (Blk.lt p1) sz2)]
   exact qAl qle (Blk.lt p1)
  have hp3 : ∀ z,qA4 w3 z → qCU z w.heap.size Pw.new:=fun z hz=>Blk.kept (Blk.kept (Blk.kept p1 k2) k3) hz
  replace bG:=bG.kept k3
  rw [← hCL] at hl
  replace hCL:=qh hCL
  clear sz1 sz2 sz3
  go_wp2_with fail
  refine qA5 [(0,0),(1,0),(2,0),(4,0),(6,0),(8,0),(10,0),(11,0),(13,0),(3,1),(5,1),(7,1),(9,1),(12,1),(14,0),(15,1),(16,0),(17,0)] (by kernel_rfl) (by kernel_rfl) ?_
  intro z1 hz1
  repeat
   refine qA0 _ rfl (fun K hK=>?_)
   first
    | (refine qqP (by rfl) ?_;apply Exists.intro;refine ⟨fun w' hw'=>?_,hK _ ?_⟩;(have q:=bG.kept (hz1.of hw');have q0:=Blk.cell q 0;clear q;go_simp;first|done|rfl))
    | refine qqN (by rfl) (hK _ ?_)
   clear hK K;simp only [Act.put,qqB]
  refine qqH _ rfl (by rfl) (fun K hK=>?_)
  go_wp2_with fail
  refine (qIh n hsl2.out z1).mono ?_
  rintro e z2 ⟨rfl,kz2⟩
  go_wp2
  refine hK _ _ (kz2) ?_
  clear hK K
  try simp only [Act.put,qqB]
  refine qqH _ rfl (by rfl) (fun K hK=>?_)
  go_wp2_with fail
  refine (qMp (gSize n) hgs.out.1 (by have:=hgs.out.2;omega) w.heap.size Pw.new (But CL z2 1) z2 (fun k hk=>hk.1) (fun hn=>hn.2 (.inr cPL)) (hp3 _ (hz1.of kz2))).mono ?_
  rintro e z3 ⟨S,rfl,hS,kz3⟩
  go_wp2
  refine hK _ _ (kz3) ?_
  clear hK K
  try simp only [Act.put,qqB]
  refine qqH _ rfl (by rfl) (fun K hK=>?_)
  go_wp2_with fail
  refine (qKi w.heap.size Pw.new (But (qAj CL 1 z2 z3) z3 2) z3 (fun k hk=>hk.1) (fun hn=>hn.2 (.inr (by rw [qAc (Nat.lt_of_lt_of_le hsP (hz1.of kz2).size)];exact cPL))) (hp3 _ ((hz1.of kz2).of kz3))).mono ?_
  rintro e z4 ⟨Dd,rfl,hD,kz4⟩
  go_wp2
  refine hK _ _ (kz4) ?_
  clear hK K
  try simp only [Act.put,qqB]
  refine qqH _ rfl (by rfl) (fun K hK=>?_)
  go_wp2_with fail
  refine (qId w.heap.size z4).mono ?_
  rintro e z5 ⟨rfl,hC,kz5,-⟩
  go_wp2
  refine hK _ _ (kz5) ?_
  clear hK K
  try simp only [Act.put,qqB]
  refine qqH _ rfl (by rfl) (fun K hK=>?_)
  go_wp2_with fail
  refine (qKf seed w.heap.size z5).mono ?_
  rintro e z6 ⟨rfl,hKy,kz6,-⟩
  go_wp2
  refine hK _ _ (kz6) ?_
  clear hK K
  try simp only [Act.put,qqB]
  repeat
   refine qA0 _ rfl (fun K hK=>?_)
   first
    | (refine qqP (by rfl) ?_;apply Exists.intro;refine ⟨fun w' hw'=>?_,hK _ ?_⟩;go_simp;first|done|rfl)
    | refine qqN (by rfl) (hK _ ?_)
   clear hK K;simp only [Act.put,qqB]
  refine qqH _ rfl (by rfl) (fun K hK=>?_)
  go_wp2
  refine hK _ _ (qal _) ?_
  clear hK K
  try simp only [Act.put,qqB]
  repeat
   refine qA0 _ rfl (fun K hK=>?_)
   first
    | (refine qqP (by rfl) ?_;apply Exists.intro;refine ⟨fun w' hw'=>?_,hK _ ?_⟩;go_simp;first|done|rfl)
    | refine qqN (by rfl) (hK _ ?_)
   clear hK K;simp only [Act.put,qqB]
  refine qA7 ?_
  go_wp2_with fail
  rw [hCL.out] at hS hl hD
  obtain ⟨col',hX,eX⟩:=qH1 (n:=n) (seed:=seed) (lk:=.real) (L:=L) rfl rfl p1 k1 n1.out k2 k3 hl (hz1.of kz2) hS kz3 hD kz4 hC kz5 hKy kz6 (Blk.new z6 _ _) (qal _)
  refine bodyPost_ret (v:=.tuple #[.pointer (some ⟨z6.heap.size,0,none⟩),.int .i64 0]) (by simp [results,results23,go_sem];done) rfl ⟨⟨z6.heap.size,w.heap.size,S,Dd,z4.heap.size,z5.heap.size + 1,L⟩,col',rfl,hX,eX⟩
 | true =>
  refine (qIl w2).mono ?_
  rintro e v3 ⟨L0,f3,f4,rfl,_,kv3,_⟩
  go_wp2_with fail
  refine (qLg v3).mono ?_
  rintro e w3 ⟨L,O,m,f3,f4,rfl,hL,hO,hM,k3,hLz,hOz,hmz⟩
  replace k2:=k2.of kv3
  replace bG:=bG.kept kv3
  have hl : LkC (qAj (qAj (fun _=>0) 6 w w1) 5 v3 w3) w3 L (.ideal [] []):=⟨O,f3,f4,hL,qAl hLz hL.lt,.slice none 0 0,[],m,hO,qE5.nil _,hM,qAl hOz hO.lt,qAl hmz (by obtain ⟨D0,h1,_⟩:=hM;exact h1.lt),⟨fun g hg=>(by cases hg),fun r hr=>(by cases hr)⟩⟩
  have sz1:=k1.size
  have sz2:=k2.size
  have sz3:=k3.size
  have hsP : w.heap.size < w3.heap.size:=Nat.lt_of_lt_of_le (Blk.lt p1) (Nat.le_trans sz2 sz3)
  obtain ⟨CL,hCL⟩ : ∃ c,c = qAj (qAj (fun _=>0) 6 w w1) 5 v3 w3:=⟨_,rfl⟩
  have cPL : CL w.heap.size = 6:=by
   rw [hCL,qAc (Nat.lt_of_lt_of_le (Blk.lt p1) sz2)]
   exact qAl qle (Blk.lt p1)
  have hp3 : ∀ z,qA4 w3 z → qCU z w.heap.size Pw.new:=fun z hz=>Blk.kept (Blk.kept (Blk.kept p1 k2) k3) hz
  replace bG:=bG.kept k3
  rw [← hCL] at hl
  replace hCL:=qh hCL
  clear sz1 sz2 sz3
  go_wp2_with fail
  refine qA5 [(0,0),(1,0),(2,0),(4,0),(6,0),(8,0),(10,0),(11,0),(13,0),(3,1),(5,1),(7,1),(9,1),(12,1),(14,0),(15,1),(16,0),(17,0)] (by kernel_rfl) (by kernel_rfl) ?_
  intro z1 hz1
  repeat
   refine qA0 _ rfl (fun K hK=>?_)
   first
    | (refine qqP (by rfl) ?_;apply Exists.intro;refine ⟨fun w' hw'=>?_,hK _ ?_⟩;(have q:=bG.kept (hz1.of hw');have q0:=Blk.cell q 0;clear q;go_simp;first|done|rfl))
    | refine qqN (by rfl) (hK _ ?_)
   clear hK K;simp only [Act.put,qqB]
  refine qqH _ rfl (by rfl) (fun K hK=>?_)
  go_wp2_with fail
  refine (qIh n hsl2.out z1).mono ?_
  rintro e z2 ⟨rfl,kz2⟩
  go_wp2
  refine hK _ _ (kz2) ?_
  clear hK K
  try simp only [Act.put,qqB]
  refine qqH _ rfl (by rfl) (fun K hK=>?_)
  go_wp2_with fail
  refine (qMp (gSize n) hgs.out.1 (by have:=hgs.out.2;omega) w.heap.size Pw.new (But CL z2 1) z2 (fun k hk=>hk.1) (fun hn=>hn.2 (.inr cPL)) (hp3 _ (hz1.of kz2))).mono ?_
  rintro e z3 ⟨S,rfl,hS,kz3⟩
  go_wp2
  refine hK _ _ (kz3) ?_
  clear hK K
  try simp only [Act.put,qqB]
  refine qqH _ rfl (by rfl) (fun K hK=>?_)
  go_wp2_with fail
  refine (qKi w.heap.size Pw.new (But (qAj CL 1 z2 z3) z3 2) z3 (fun k hk=>hk.1) (fun hn=>hn.2 (.inr (by rw [qAc (Nat.lt_of_lt_of_le hsP (hz1.of kz2).size)];exact cPL))) (hp3 _ ((hz1.of kz2).of kz3))).mono ?_
  rintro e z4 ⟨Dd,rfl,hD,kz4⟩
  go_wp2
  refine hK _ _ (kz4) ?_
  clear hK K
  try simp only [Act.put,qqB]
  refine qqH _ rfl (by rfl) (fun K hK=>?_)
  go_wp2_with fail
  refine (qId w.heap.size z4).mono ?_
  rintro e z5 ⟨rfl,hC,kz5,-⟩
  go_wp2
  refine hK _ _ (kz5) ?_
  clear hK K
  try simp only [Act.put,qqB]
  refine qqH _ rfl (by rfl) (fun K hK=>?_)
  go_wp2_with fail
  refine (qKf seed w.heap.size z5).mono ?_
  rintro e z6 ⟨rfl,hKy,kz6,-⟩
  go_wp2
  refine hK _ _ (kz6) ?_
  clear hK K
  try simp only [Act.put,qqB]
  repeat
   refine qA0 _ rfl (fun K hK=>?_)
   first
    | (refine qqP (by rfl) ?_;apply Exists.intro;refine ⟨fun w' hw'=>?_,hK _ ?_⟩;go_simp;first|done|rfl)
    | refine qqN (by rfl) (hK _ ?_)
   clear hK K;simp only [Act.put,qqB]
  refine qqH _ rfl (by rfl) (fun K hK=>?_)
  go_wp2
  refine hK _ _ (qal _) ?_
  clear hK K
  try simp only [Act.put,qqB]
  repeat
   refine qA0 _ rfl (fun K hK=>?_)
   first
    | (refine qqP (by rfl) ?_;apply Exists.intro;refine ⟨fun w' hw'=>?_,hK _ ?_⟩;go_simp;first|done|rfl)
    | refine qqN (by rfl) (hK _ ?_)
   clear hK K;simp only [Act.put,qqB]
  refine qA7 ?_
  go_wp2_with fail
  rw [hCL.out] at hS hl hD
  obtain ⟨col',hX,eX⟩:=qH1 (n:=n) (seed:=seed) (lk:=(.ideal [] [])) (L:=L) rfl rfl p1 k1 n1.out k2 k3 hl (hz1.of kz2) hS kz3 hD kz4 hC kz5 hKy kz6 (Blk.new z6 _ _) (qal _)
  refine bodyPost_ret (v:=.tuple #[.pointer (some ⟨z6.heap.size,0,none⟩),.int .i64 0]) (by simp [results,results23,go_sem];done) rfl ⟨⟨z6.heap.size,w.heap.size,S,Dd,z4.heap.size,z5.heap.size + 1,L⟩,col',rfl,hX,eX⟩
theorem Ext.sl0c {m n : Nat} {col col' : Nat → Nat} {w w' : World} {u : Value} {cs : List Value} (e : Ext m col col' w w') (h : Sl w u n cs) (h0 : ∀ a c,u = .slice (some a) n c → 0 < cs.length → col a.block = 0) : Sl w' u n cs ∧ ∀ a c,u = .slice (some a) n c → 0 < cs.length → col' a.block = 0:=by
 rcases h with h1 | ⟨a,cap,rfl,k1,k2,k3⟩
 · refine ⟨.inl h1,fun a c e2=>?_⟩
   rw [h1.1] at e2;cases e2
 · have hc : ∀ j v,cs[j]? = some v → w'.cell? (a.add j) = some v:=fun j v hj=>by
    have hl : 0 < cs.length:=by
     have:=(List.getElem?_eq_some_iff.1 hj).1
     omega
    have:=h0 a cap rfl hl
    refine e.cell0 (k3 j v hj) ?_
    rw [show (a.add j).block = a.block by unfold Addr.add;split <;> rfl]
    exact this
   refine ⟨.inr ⟨a,cap,rfl,k1,k2,hc⟩,fun a2 c2 e2 hl=>?_⟩
   cases e2
   have h3:=k3 0 _ (List.getElem?_eq_getElem hl)
   rw [Addr.add_zero'] at h3
   rw [e.old _ (World.block_lt_of_cell? w _ h3)]
   exact h0 a _ rfl hl
def Wd.crash (x : Wd) (ks : List Bool) : Wd:=(((x.sCrash ks).dCrash ks).setP ((x.sCrash ks).dCrash ks).p.back)
theorem Wd.fine.crash {x : Wd} {m : Nat} (f : x.fine m) (ks : List Bool) : (x.crash ks).fine (m + 3):=by
 have f2:=(f.sCrash ks).dCrash ks
 refine f2.setP ?_
 obtain ⟨h1,h2,h3⟩:=f2.ok.s.pw
 refine ⟨h1,?_,fun h=>by cases h⟩
 show ((x.sCrash ks).dCrash ks).p.steps ≤ _
 have : ((x.sCrash ks).dCrash ks).p.steps ≤ ((m + 1 + 1 : Nat) : Int):=h2
 omega
theorem qOW {col : Nat → Nat} {w : World} {P : qAQ} {x : Wd} {m : Nat} (h : qAS col w P x) (f : x.fine m) (hm : m ≤ 90000) (v : Value) (ks : List Bool) (kl : ks.length ≤ 100000) (hks : Sl w v ks.length (qBo ks)) (hu : ∀ a c,v = .slice (some a) ks.length c → 0 < (qBo ks).length → col a.block = 0) :
 Calls prog 52 #[.pointer (some ⟨P.W,0,none⟩),v] w fun e w'=>e = .returned (.tuple #[]) ∧ qGM 6 col w P (x.crash ks) w':=by
 have q2:=h.blk.cell 2
 have CS:=qMz h f.ok (by omega) v ks kl hks hu
 go_enter func52,ntmps52
 go_wp2_with fail
 refine CS.mono ?_
 rintro e w1 ⟨rfl,col1,h1,e1⟩
 have q3:=h1.blk.cell 3
 have f1 : (x.sCrash ks).fine (m + 1):=f.sCrash ks
 have u1:=e1.sl0c hks hu
 have CD:=qMB h1 f1.ok (by omega) v ks kl u1.1 u1.2
 clear q2
 go_wp2_with fail
 refine CD.mono ?_
 rintro e w2 ⟨rfl,col2,h2,e2⟩
 have q1:=h2.blk.cell 1
 clear q3
 go_wp2_with fail
 refine (qOn h2).mono ?_
 rintro e w3 ⟨rfl,col3,h3,e3⟩
 go_wp2_with fail
 refine bodyPost_end (results_none rfl _ _ _) rfl ⟨rfl,col3,h3,(e1.trans e2).trans e3⟩
end Go.Proofs.YtdlgihbpiakebaaGreat
