import Derived.Test.YtdlgihbpiakebaaGreatMk27
import Derived.Test.YtdlgihbpiakebaaGreatMk31
import Derived.Test.YtdlgihbpiakebaaGreatMk48
set_option maxRecDepth 100000
set_option maxHeartbeats 4000000
namespace Go.Proofs.YtdlgihbpiakebaaGreat
open Go Go.RowKit Tryz
section
variable {P:Program} {T kt et:TypeId}
theorem qGu {d:TypeDesc}(ht:P.underlying T=some (.map kt et))(hk:P.underlying kt=some d)(es:Array MapEntry)(c:Nat)(k:Int)(v:Value)(hik:MapKept.IsKey d (.int .i64 k))(hne:Instr.findNow d (.int .i64 k) es.toList 0=some none)(w:World) :
 (Instr.mapUpdate T (.map (some w.heap.size)) (.int .i64 k) v).run P (w.alloc (.map es c))= .ok () (w.alloc (.map (es.push ⟨.int .i64 k,v,c⟩) (c+1))):=by
 have j:(w.alloc (.map es c)).heap[w.heap.size]? = some (.map es c):=by
  show(w.heap.push _)[w.heap.size]? = _
  simp
 have h:∀o,({ (w.alloc (.map es c)) with heap:=(w.alloc (.map es c)).heap.setIfInBounds w.heap.size o }:World)=w.alloc o:=fun o=>by
  show({ w with heap:=(w.heap.push _).setIfInBounds w.heap.size o }:World)={ w with heap:=w.heap.push o }
  have:(w.heap.push (.map es c)).setIfInBounds w.heap.size o=w.heap.push o:=by apply Array.ext';simp
  rw[this]
 have f:=fun (x:World) e n=>MapKept.run_checkKey (w:=x) hk hik e n
 simp[Instr.mapUpdate,run_underlying ht,MapKept.run_getObj_map j,f _ _ 9999,MapKept.run_findKey hk hne,MapKept.run_setObj_map _ j,Result.andThen]
 exact h _
theorem qEY {d:TypeDesc}(ht:P.underlying T=some (.map kt et))(hk:P.underlying kt=some d)(es:Array MapEntry)(c:Nat)(k:Int)(i:Nat)(v:Value)(hik:MapKept.IsKey d (.int .i64 k))(hne:Instr.findNow d (.int .i64 k) es.toList 0=some (some (i,v)))(w:World) :
 (Instr.lookup T (.map (some w.heap.size)) (.int .i64 k) false).run P (w.alloc (.map es c))= .ok v (w.alloc (.map es c)):=by
 have h:(w.alloc (.map es c)).heap[w.heap.size]? = some (.map es c):=by
  show(w.heap.push _)[w.heap.size]? = _
  simp
 have f:=fun (x:World) e n=>MapKept.run_checkKey (w:=x) hk hik e n
 simp[Instr.lookup,run_underlying ht,MapKept.run_getObj_map h,f _ _ 9999,MapKept.run_findKey hk hne,Result.andThen]
end
theorem qC5:prog.underlying 163=some (.map (prog.mapKeyOf 163) (prog.mapElemOf 163)):=by kernel_rfl
theorem qC6:prog.underlying (prog.mapKeyOf 163)=some (.int .i64):=by kernel_rfl
def Bx.doC (b:Bx)(c:Cl):(Int×List UInt8)×Bx:=
 if b.x.p.gone then((7,[]),b) else if b.c.bad then((4,[]),b) else if c.is=false then((1,[]),b)
 else if c.kind=1 then b.read c.lba
 else if c.kind=2 then(((b.write c.lba c.data).1,[]),(b.write c.lba c.data).2)
 else if c.kind=3 then((b.commit.1,[]),b.commit.2)
 else if c.kind=4 then(((b.discard c.lba).1,[]),(b.discard c.lba).2)
 else((b.rotate.1,[]),b.rotate.2)
def qGW:Array MapEntry:=#[⟨.int .i64 1,(Value.func (.func 77) #[] #[]),0⟩,⟨.int .i64 2,(Value.func (.func 78) #[] #[]),1⟩,⟨.int .i64 3,(Value.func (.func 79) #[] #[]),2⟩,⟨.int .i64 4,(Value.func (.func 80) #[] #[]),3⟩,⟨.int .i64 5,(Value.func (.func 81) #[] #[]),4⟩]
theorem qGv (wx:World):(Instr.mapUpdate 163 (.map (some wx.heap.size)) (.int .i64 1) (Value.func (.func 77) #[] #[])).run prog (wx.alloc (.map #[] 0))= .ok () (wx.alloc (.map #[⟨.int .i64 1,(Value.func (.func 77) #[] #[]),0⟩] 1)):=by
 have:=qGu qC5 qC6 #[] 0 1 (Value.func (.func 77) #[] #[]) rfl rfl wx
 simp only[List.push_toArray,List.nil_append]at this
 exact this
theorem qGw (wx:World):(Instr.mapUpdate 163 (.map (some wx.heap.size)) (.int .i64 2) (Value.func (.func 78) #[] #[])).run prog (wx.alloc (.map #[⟨.int .i64 1,(Value.func (.func 77) #[] #[]),0⟩] 1))= .ok () (wx.alloc (.map #[⟨.int .i64 1,(Value.func (.func 77) #[] #[]),0⟩,⟨.int .i64 2,(Value.func (.func 78) #[] #[]),1⟩] 2)):=by
 have:=qGu qC5 qC6 #[⟨.int .i64 1,(Value.func (.func 77) #[] #[]),0⟩] 1 2 (Value.func (.func 78) #[] #[]) rfl rfl wx
 simp only[List.push_toArray,List.nil_append,List.cons_append]at this
 exact this
theorem qGx (wx:World):(Instr.mapUpdate 163 (.map (some wx.heap.size)) (.int .i64 3) (Value.func (.func 79) #[] #[])).run prog (wx.alloc (.map #[⟨.int .i64 1,(Value.func (.func 77) #[] #[]),0⟩,⟨.int .i64 2,(Value.func (.func 78) #[] #[]),1⟩] 2))= .ok () (wx.alloc (.map #[⟨.int .i64 1,(Value.func (.func 77) #[] #[]),0⟩,⟨.int .i64 2,(Value.func (.func 78) #[] #[]),1⟩,⟨.int .i64 3,(Value.func (.func 79) #[] #[]),2⟩] 3)):=by
 have:=qGu qC5 qC6 #[⟨.int .i64 1,(Value.func (.func 77) #[] #[]),0⟩,⟨.int .i64 2,(Value.func (.func 78) #[] #[]),1⟩] 2 3 (Value.func (.func 79) #[] #[]) rfl rfl wx
 simp only[List.push_toArray,List.nil_append,List.cons_append]at this
 exact this
theorem qGy (wx:World):(Instr.mapUpdate 163 (.map (some wx.heap.size)) (.int .i64 4) (Value.func (.func 80) #[] #[])).run prog (wx.alloc (.map #[⟨.int .i64 1,(Value.func (.func 77) #[] #[]),0⟩,⟨.int .i64 2,(Value.func (.func 78) #[] #[]),1⟩,⟨.int .i64 3,(Value.func (.func 79) #[] #[]),2⟩] 3))= .ok () (wx.alloc (.map #[⟨.int .i64 1,(Value.func (.func 77) #[] #[]),0⟩,⟨.int .i64 2,(Value.func (.func 78) #[] #[]),1⟩,⟨.int .i64 3,(Value.func (.func 79) #[] #[]),2⟩,⟨.int .i64 4,(Value.func (.func 80) #[] #[]),3⟩] 4)):=by
 have:=qGu qC5 qC6 #[⟨.int .i64 1,(Value.func (.func 77) #[] #[]),0⟩,⟨.int .i64 2,(Value.func (.func 78) #[] #[]),1⟩,⟨.int .i64 3,(Value.func (.func 79) #[] #[]),2⟩] 3 4 (Value.func (.func 80) #[] #[]) rfl rfl wx
 simp only[List.push_toArray,List.nil_append,List.cons_append]at this
 exact this
theorem qGz (wx:World):(Instr.mapUpdate 163 (.map (some wx.heap.size)) (.int .i64 5) (Value.func (.func 81) #[] #[])).run prog (wx.alloc (.map #[⟨.int .i64 1,(Value.func (.func 77) #[] #[]),0⟩,⟨.int .i64 2,(Value.func (.func 78) #[] #[]),1⟩,⟨.int .i64 3,(Value.func (.func 79) #[] #[]),2⟩,⟨.int .i64 4,(Value.func (.func 80) #[] #[]),3⟩] 4))= .ok () (wx.alloc (.map qGW 5)):=by
 have:=qGu qC5 qC6 #[⟨.int .i64 1,(Value.func (.func 77) #[] #[]),0⟩,⟨.int .i64 2,(Value.func (.func 78) #[] #[]),1⟩,⟨.int .i64 3,(Value.func (.func 79) #[] #[]),2⟩,⟨.int .i64 4,(Value.func (.func 80) #[] #[]),3⟩] 4 5 (Value.func (.func 81) #[] #[]) rfl rfl wx
 simp only[List.push_toArray,List.nil_append,List.cons_append]at this
 exact this
theorem qPO (wx:World):(Instr.lookup 163 (.map (some wx.heap.size)) (.int .i64 1) false).run prog (wx.alloc (.map qGW 5))= .ok (Value.func (.func 77) #[] #[]) (wx.alloc (.map qGW 5)):=qEY qC5 qC6 qGW 5 1 0 (Value.func (.func 77) #[] #[]) rfl rfl wx
theorem qPP (wx:World):(Instr.lookup 163 (.map (some wx.heap.size)) (.int .i64 2) false).run prog (wx.alloc (.map qGW 5))= .ok (Value.func (.func 78) #[] #[]) (wx.alloc (.map qGW 5)):=qEY qC5 qC6 qGW 5 2 1 (Value.func (.func 78) #[] #[]) rfl rfl wx
theorem qPQ (wx:World):(Instr.lookup 163 (.map (some wx.heap.size)) (.int .i64 3) false).run prog (wx.alloc (.map qGW 5))= .ok (Value.func (.func 79) #[] #[]) (wx.alloc (.map qGW 5)):=qEY qC5 qC6 qGW 5 3 2 (Value.func (.func 79) #[] #[]) rfl rfl wx
theorem qPR (wx:World):(Instr.lookup 163 (.map (some wx.heap.size)) (.int .i64 4) false).run prog (wx.alloc (.map qGW 5))= .ok (Value.func (.func 80) #[] #[]) (wx.alloc (.map qGW 5)):=qEY qC5 qC6 qGW 5 4 3 (Value.func (.func 80) #[] #[]) rfl rfl wx
theorem qPS (wx:World):(Instr.lookup 163 (.map (some wx.heap.size)) (.int .i64 5) false).run prog (wx.alloc (.map qGW 5))= .ok (Value.func (.func 81) #[] #[]) (wx.alloc (.map qGW 5)):=qEY qC5 qC6 qGW 5 5 4 (Value.func (.func 81) #[] #[]) rfl rfl wx
theorem qSn {col:Nat→Nat}{w:World}{P:qAU}{M C:Nat}{b:Bx}(h:qCM col w P M C b)(hg:b.x.p.gone=false)(hb:b.c.bad=false)(lba:Int)(a:Option Addr)(n c:Nat)(data:List UInt8)(hdl:data.length=n)(hn:n≤1000000)(his:Cl.is ⟨1,lba,data⟩=true)(E:Int)(D:List UInt8)(B:Bx)
 (CC:∀z,qA4 w z→Calls prog 77 #[.pointer (some ⟨C,0,none⟩),.agg #[.int .i64 1,.int .i64 lba,.slice a n c]] z fun e w'=>∃v col',e= .returned (.agg #[.int .i64 E,v])∧qC4 col' w' z.heap.size v D∧qCM col' w' P M C B∧Ext 11 col col' z w') :
 Calls prog 51 #[.pointer (some ⟨C,0,none⟩),.agg #[.int .i64 1,.int .i64 lba,.slice a n c]] w fun e w'=>∃v col',e= .returned (.agg #[.int .i64 E,v])∧qC4 col' w' w.heap.size v D∧qCM col' w' P M C B∧Ext 11 col col' w w':=by
 obtain⟨A,vn,vw,h0⟩:=h
 have G:qA4 w ((w.alloc (.cells #[.int .i64 1,.int .i64 lba,.slice a n c] 34)).alloc (.cells #[.int .i64 0,.slice none 0 0] 39)):=(qal _).alloc (by simp) _
 have bT:Blk ((w.alloc (.cells #[.int .i64 1,.int .i64 lba,.slice a n c] 34)).alloc (.cells #[.int .i64 0,.slice none 0 0] 39)) (w.heap.size+1) #[.int .i64 0,.slice none 0 0] 39:=by
  have:=Blk.new (w.alloc (.cells #[.int .i64 1,.int .i64 lba,.slice a n c] 34)) #[.int .i64 0,.slice none 0 0] 39
  rw[World.size_alloc]at this
  exact this
 have V:=h0.kept G
 have q0:=V.blk.cell 0
 have q5:=V.blk.cell 5
 have r1:=V.wm.wd.blk.cell 1
 have CO:=qFO V.wm.wd
 rw[hg]at CO
 rw[hb]at q5
 have CI:=qFg ⟨1,lba,data⟩ a c (by show data.length≤_;omega)
 simp only[hdl]at CI
 rw[his]at CI
 have cT:col (w.heap.size+1)=0:=h0.top _ (by omega)
 replace hn:=qh hn
 clear his
 have a8:=@run_makeMap prog
 have a4:=qGv
 have a5:=qGw
 have b3:=qGx
 have a9:=qGy
 have a7:=qGz
 have b4:=qPO
 go_enter func51,ntmps51
 go_wp2_with fail
 refine CO.mono ?_
 rintro e w1 ⟨rfl,rfl⟩
 go_wp2_with fail
 refine(CI _).mono ?_
 rintro e w2 ⟨rfl,f⟩
 have a0:=(((Blk.new w #[.int .i64 1,.int .i64 lba,.slice a n c] 34).kept ((Below.refl _ _).alloc (by simp) (.cells #[.int .i64 0,.slice none 0 0] 39))).kept f)
 have l:qA4 w2 (w2.alloc (.map qGW 5)):=qal _
 have F:=a0.kept l
 have x0:=F.cell 0
 have x1:=F.cell 1
 have x2:=F.cell 2
 have Y:=(bT.kept f).kept l
 have I:=(G.of f).of l
 have a3:=f.size
 have a1:=(bT.kept f).lt
 have a2:=l.size
 have CZ:=CC _ I
 go_wp2_with fail
 refine CZ.mono ?_
 rintro e w4 ⟨v,J,rfl,hv,h4,e4⟩
 obtain⟨j,Z⟩:=e4.blk0 Y cT
 have f0:=j.free 0
 have f1:=j.free 1
 have y0:=j.cell 0
 have y1:=j.cell 1
 obtain⟨O,N,rfl⟩:=(Sl.of_own hv.1).len
 go_wp2_with fail
 have bR:=(j.set 0 (.int .i64 E)).set 1 (.slice O D.length N)
 have q:Chg [w.heap.size+1] w4 ((w4.setCell ⟨w.heap.size+1,0,none⟩ (.int .i64 E)).setCell ⟨w.heap.size+1,1,none⟩ (.slice O D.length N)):=((Chg.refl _ _).set qsm 0 _).set qsm 1 _
 have r0:=bR.cell 0
 have r1:=bR.cell 1
 clear f0 f1 y0 y1
 generalize ((w4.setCell ⟨w.heap.size+1,0,none⟩ (.int .i64 E)).setCell ⟨w.heap.size+1,1,none⟩ (.slice O D.length N))=wE at *
 obtain⟨A4,b5,a6,h4⟩:=h4
 refine bodyPost_ret (v:=.agg #[.int .i64 E,.slice O D.length N]) (by simp[results,results51,go_sem,r0,r1];try exact⟨rfl,rfl⟩) rfl ⟨_,J,rfl,(hv.chg q (by omega)).base (by omega),⟨_,_,_,h4.chg0 q Z⟩,((Ext.kept (m:=11) h0.top I).trans e4).newset q (by omega)⟩
theorem qSo {col:Nat→Nat}{w:World}{P:qAU}{M C:Nat}{b:Bx}(h:qCM col w P M C b)(hg:b.x.p.gone=false)(hb:b.c.bad=false)(lba:Int)(a:Option Addr)(n c:Nat)(data:List UInt8)(hdl:data.length=n)(hn:n≤1000000)(his:Cl.is ⟨2,lba,data⟩=true)(E:Int)(D:List UInt8)(B:Bx)
 (CC:∀z,qA4 w z→Calls prog 78 #[.pointer (some ⟨C,0,none⟩),.agg #[.int .i64 2,.int .i64 lba,.slice a n c]] z fun e w'=>∃v col',e= .returned (.agg #[.int .i64 E,v])∧qC4 col' w' z.heap.size v D∧qCM col' w' P M C B∧Ext 11 col col' z w') :
 Calls prog 51 #[.pointer (some ⟨C,0,none⟩),.agg #[.int .i64 2,.int .i64 lba,.slice a n c]] w fun e w'=>∃v col',e= .returned (.agg #[.int .i64 E,v])∧qC4 col' w' w.heap.size v D∧qCM col' w' P M C B∧Ext 11 col col' w w':=by
 obtain⟨A,vn,vw,h0⟩:=h
 have G:qA4 w ((w.alloc (.cells #[.int .i64 2,.int .i64 lba,.slice a n c] 34)).alloc (.cells #[.int .i64 0,.slice none 0 0] 39)):=(qal _).alloc (by simp) _
 have bT:Blk ((w.alloc (.cells #[.int .i64 2,.int .i64 lba,.slice a n c] 34)).alloc (.cells #[.int .i64 0,.slice none 0 0] 39)) (w.heap.size+1) #[.int .i64 0,.slice none 0 0] 39:=by
  have:=Blk.new (w.alloc (.cells #[.int .i64 2,.int .i64 lba,.slice a n c] 34)) #[.int .i64 0,.slice none 0 0] 39
  rw[World.size_alloc]at this
  exact this
 have V:=h0.kept G
 have q0:=V.blk.cell 0
 have q5:=V.blk.cell 5
 have r1:=V.wm.wd.blk.cell 1
 have CO:=qFO V.wm.wd
 rw[hg]at CO
 rw[hb]at q5
 have CI:=qFg ⟨2,lba,data⟩ a c (by show data.length≤_;omega)
 simp only[hdl]at CI
 rw[his]at CI
 have cT:col (w.heap.size+1)=0:=h0.top _ (by omega)
 replace hn:=qh hn
 clear his
 have a8:=@run_makeMap prog
 have a4:=qGv
 have a5:=qGw
 have b3:=qGx
 have a9:=qGy
 have a7:=qGz
 have b4:=qPP
 go_enter func51,ntmps51
 go_wp2_with fail
 refine CO.mono ?_
 rintro e w1 ⟨rfl,rfl⟩
 go_wp2_with fail
 refine(CI _).mono ?_
 rintro e w2 ⟨rfl,f⟩
 have a0:=(((Blk.new w #[.int .i64 2,.int .i64 lba,.slice a n c] 34).kept ((Below.refl _ _).alloc (by simp) (.cells #[.int .i64 0,.slice none 0 0] 39))).kept f)
 have l:qA4 w2 (w2.alloc (.map qGW 5)):=qal _
 have F:=a0.kept l
 have x0:=F.cell 0
 have x1:=F.cell 1
 have x2:=F.cell 2
 have Y:=(bT.kept f).kept l
 have I:=(G.of f).of l
 have a3:=f.size
 have a1:=(bT.kept f).lt
 have a2:=l.size
 have CZ:=CC _ I
 go_wp2_with fail
 refine CZ.mono ?_
 rintro e w4 ⟨v,J,rfl,hv,h4,e4⟩
 obtain⟨j,Z⟩:=e4.blk0 Y cT
 have f0:=j.free 0
 have f1:=j.free 1
 have y0:=j.cell 0
 have y1:=j.cell 1
 obtain⟨O,N,rfl⟩:=(Sl.of_own hv.1).len
 go_wp2_with fail
 have bR:=(j.set 0 (.int .i64 E)).set 1 (.slice O D.length N)
 have q:Chg [w.heap.size+1] w4 ((w4.setCell ⟨w.heap.size+1,0,none⟩ (.int .i64 E)).setCell ⟨w.heap.size+1,1,none⟩ (.slice O D.length N)):=((Chg.refl _ _).set qsm 0 _).set qsm 1 _
 have r0:=bR.cell 0
 have r1:=bR.cell 1
 clear f0 f1 y0 y1
 generalize ((w4.setCell ⟨w.heap.size+1,0,none⟩ (.int .i64 E)).setCell ⟨w.heap.size+1,1,none⟩ (.slice O D.length N))=wE at *
 obtain⟨A4,b5,a6,h4⟩:=h4
 refine bodyPost_ret (v:=.agg #[.int .i64 E,.slice O D.length N]) (by simp[results,results51,go_sem,r0,r1];try exact⟨rfl,rfl⟩) rfl ⟨_,J,rfl,(hv.chg q (by omega)).base (by omega),⟨_,_,_,h4.chg0 q Z⟩,((Ext.kept (m:=11) h0.top I).trans e4).newset q (by omega)⟩
theorem qSp {col:Nat→Nat}{w:World}{P:qAU}{M C:Nat}{b:Bx}(h:qCM col w P M C b)(hg:b.x.p.gone=false)(hb:b.c.bad=false)(lba:Int)(a:Option Addr)(n c:Nat)(data:List UInt8)(hdl:data.length=n)(hn:n≤1000000)(his:Cl.is ⟨3,lba,data⟩=true)(E:Int)(D:List UInt8)(B:Bx)
 (CC:∀z,qA4 w z→Calls prog 79 #[.pointer (some ⟨C,0,none⟩),.agg #[.int .i64 3,.int .i64 lba,.slice a n c]] z fun e w'=>∃v col',e= .returned (.agg #[.int .i64 E,v])∧qC4 col' w' z.heap.size v D∧qCM col' w' P M C B∧Ext 11 col col' z w') :
 Calls prog 51 #[.pointer (some ⟨C,0,none⟩),.agg #[.int .i64 3,.int .i64 lba,.slice a n c]] w fun e w'=>∃v col',e= .returned (.agg #[.int .i64 E,v])∧qC4 col' w' w.heap.size v D∧qCM col' w' P M C B∧Ext 11 col col' w w':=by
 obtain⟨A,vn,vw,h0⟩:=h
 have G:qA4 w ((w.alloc (.cells #[.int .i64 3,.int .i64 lba,.slice a n c] 34)).alloc (.cells #[.int .i64 0,.slice none 0 0] 39)):=(qal _).alloc (by simp) _
 have bT:Blk ((w.alloc (.cells #[.int .i64 3,.int .i64 lba,.slice a n c] 34)).alloc (.cells #[.int .i64 0,.slice none 0 0] 39)) (w.heap.size+1) #[.int .i64 0,.slice none 0 0] 39:=by
  have:=Blk.new (w.alloc (.cells #[.int .i64 3,.int .i64 lba,.slice a n c] 34)) #[.int .i64 0,.slice none 0 0] 39
  rw[World.size_alloc]at this
  exact this
 have V:=h0.kept G
 have q0:=V.blk.cell 0
 have q5:=V.blk.cell 5
 have r1:=V.wm.wd.blk.cell 1
 have CO:=qFO V.wm.wd
 rw[hg]at CO
 rw[hb]at q5
 have CI:=qFg ⟨3,lba,data⟩ a c (by show data.length≤_;omega)
 simp only[hdl]at CI
 rw[his]at CI
 have cT:col (w.heap.size+1)=0:=h0.top _ (by omega)
 replace hn:=qh hn
 clear his
 have a8:=@run_makeMap prog
 have a4:=qGv
 have a5:=qGw
 have b3:=qGx
 have a9:=qGy
 have a7:=qGz
 have b4:=qPQ
 go_enter func51,ntmps51
 go_wp2_with fail
 refine CO.mono ?_
 rintro e w1 ⟨rfl,rfl⟩
 go_wp2_with fail
 refine(CI _).mono ?_
 rintro e w2 ⟨rfl,f⟩
 have a0:=(((Blk.new w #[.int .i64 3,.int .i64 lba,.slice a n c] 34).kept ((Below.refl _ _).alloc (by simp) (.cells #[.int .i64 0,.slice none 0 0] 39))).kept f)
 have l:qA4 w2 (w2.alloc (.map qGW 5)):=qal _
 have F:=a0.kept l
 have x0:=F.cell 0
 have x1:=F.cell 1
 have x2:=F.cell 2
 have Y:=(bT.kept f).kept l
 have I:=(G.of f).of l
 have a3:=f.size
 have a1:=(bT.kept f).lt
 have a2:=l.size
 have CZ:=CC _ I
 go_wp2_with fail
 refine CZ.mono ?_
 rintro e w4 ⟨v,J,rfl,hv,h4,e4⟩
 obtain⟨j,Z⟩:=e4.blk0 Y cT
 have f0:=j.free 0
 have f1:=j.free 1
 have y0:=j.cell 0
 have y1:=j.cell 1
 obtain⟨O,N,rfl⟩:=(Sl.of_own hv.1).len
 go_wp2_with fail
 have bR:=(j.set 0 (.int .i64 E)).set 1 (.slice O D.length N)
 have q:Chg [w.heap.size+1] w4 ((w4.setCell ⟨w.heap.size+1,0,none⟩ (.int .i64 E)).setCell ⟨w.heap.size+1,1,none⟩ (.slice O D.length N)):=((Chg.refl _ _).set qsm 0 _).set qsm 1 _
 have r0:=bR.cell 0
 have r1:=bR.cell 1
 clear f0 f1 y0 y1
 generalize ((w4.setCell ⟨w.heap.size+1,0,none⟩ (.int .i64 E)).setCell ⟨w.heap.size+1,1,none⟩ (.slice O D.length N))=wE at *
 obtain⟨A4,b5,a6,h4⟩:=h4
 refine bodyPost_ret (v:=.agg #[.int .i64 E,.slice O D.length N]) (by simp[results,results51,go_sem,r0,r1];try exact⟨rfl,rfl⟩) rfl ⟨_,J,rfl,(hv.chg q (by omega)).base (by omega),⟨_,_,_,h4.chg0 q Z⟩,((Ext.kept (m:=11) h0.top I).trans e4).newset q (by omega)⟩
theorem qSq {col:Nat→Nat}{w:World}{P:qAU}{M C:Nat}{b:Bx}(h:qCM col w P M C b)(hg:b.x.p.gone=false)(hb:b.c.bad=false)(lba:Int)(a:Option Addr)(n c:Nat)(data:List UInt8)(hdl:data.length=n)(hn:n≤1000000)(his:Cl.is ⟨4,lba,data⟩=true)(E:Int)(D:List UInt8)(B:Bx)
 (CC:∀z,qA4 w z→Calls prog 80 #[.pointer (some ⟨C,0,none⟩),.agg #[.int .i64 4,.int .i64 lba,.slice a n c]] z fun e w'=>∃v col',e= .returned (.agg #[.int .i64 E,v])∧qC4 col' w' z.heap.size v D∧qCM col' w' P M C B∧Ext 11 col col' z w') :
 Calls prog 51 #[.pointer (some ⟨C,0,none⟩),.agg #[.int .i64 4,.int .i64 lba,.slice a n c]] w fun e w'=>∃v col',e= .returned (.agg #[.int .i64 E,v])∧qC4 col' w' w.heap.size v D∧qCM col' w' P M C B∧Ext 11 col col' w w':=by
 obtain⟨A,vn,vw,h0⟩:=h
 have G:qA4 w ((w.alloc (.cells #[.int .i64 4,.int .i64 lba,.slice a n c] 34)).alloc (.cells #[.int .i64 0,.slice none 0 0] 39)):=(qal _).alloc (by simp) _
 have bT:Blk ((w.alloc (.cells #[.int .i64 4,.int .i64 lba,.slice a n c] 34)).alloc (.cells #[.int .i64 0,.slice none 0 0] 39)) (w.heap.size+1) #[.int .i64 0,.slice none 0 0] 39:=by
  have:=Blk.new (w.alloc (.cells #[.int .i64 4,.int .i64 lba,.slice a n c] 34)) #[.int .i64 0,.slice none 0 0] 39
  rw[World.size_alloc]at this
  exact this
 have V:=h0.kept G
 have q0:=V.blk.cell 0
 have q5:=V.blk.cell 5
 have r1:=V.wm.wd.blk.cell 1
 have CO:=qFO V.wm.wd
 rw[hg]at CO
 rw[hb]at q5
 have CI:=qFg ⟨4,lba,data⟩ a c (by show data.length≤_;omega)
 simp only[hdl]at CI
 rw[his]at CI
 have cT:col (w.heap.size+1)=0:=h0.top _ (by omega)
 replace hn:=qh hn
 clear his
 have a8:=@run_makeMap prog
 have a4:=qGv
 have a5:=qGw
 have b3:=qGx
 have a9:=qGy
 have a7:=qGz
 have b4:=qPR
 go_enter func51,ntmps51
 go_wp2_with fail
 refine CO.mono ?_
 rintro e w1 ⟨rfl,rfl⟩
 go_wp2_with fail
 refine(CI _).mono ?_
 rintro e w2 ⟨rfl,f⟩
 have a0:=(((Blk.new w #[.int .i64 4,.int .i64 lba,.slice a n c] 34).kept ((Below.refl _ _).alloc (by simp) (.cells #[.int .i64 0,.slice none 0 0] 39))).kept f)
 have l:qA4 w2 (w2.alloc (.map qGW 5)):=qal _
 have F:=a0.kept l
 have x0:=F.cell 0
 have x1:=F.cell 1
 have x2:=F.cell 2
 have Y:=(bT.kept f).kept l
 have I:=(G.of f).of l
 have a3:=f.size
 have a1:=(bT.kept f).lt
 have a2:=l.size
 have CZ:=CC _ I
 go_wp2_with fail
 refine CZ.mono ?_
 rintro e w4 ⟨v,J,rfl,hv,h4,e4⟩
 obtain⟨j,Z⟩:=e4.blk0 Y cT
 have f0:=j.free 0
 have f1:=j.free 1
 have y0:=j.cell 0
 have y1:=j.cell 1
 obtain⟨O,N,rfl⟩:=(Sl.of_own hv.1).len
 go_wp2_with fail
 have bR:=(j.set 0 (.int .i64 E)).set 1 (.slice O D.length N)
 have q:Chg [w.heap.size+1] w4 ((w4.setCell ⟨w.heap.size+1,0,none⟩ (.int .i64 E)).setCell ⟨w.heap.size+1,1,none⟩ (.slice O D.length N)):=((Chg.refl _ _).set qsm 0 _).set qsm 1 _
 have r0:=bR.cell 0
 have r1:=bR.cell 1
 clear f0 f1 y0 y1
 generalize ((w4.setCell ⟨w.heap.size+1,0,none⟩ (.int .i64 E)).setCell ⟨w.heap.size+1,1,none⟩ (.slice O D.length N))=wE at *
 obtain⟨A4,b5,a6,h4⟩:=h4
 refine bodyPost_ret (v:=.agg #[.int .i64 E,.slice O D.length N]) (by simp[results,results51,go_sem,r0,r1];try exact⟨rfl,rfl⟩) rfl ⟨_,J,rfl,(hv.chg q (by omega)).base (by omega),⟨_,_,_,h4.chg0 q Z⟩,((Ext.kept (m:=11) h0.top I).trans e4).newset q (by omega)⟩
theorem qSr {col:Nat→Nat}{w:World}{P:qAU}{M C:Nat}{b:Bx}(h:qCM col w P M C b)(hg:b.x.p.gone=false)(hb:b.c.bad=false)(lba:Int)(a:Option Addr)(n c:Nat)(data:List UInt8)(hdl:data.length=n)(hn:n≤1000000)(his:Cl.is ⟨5,lba,data⟩=true)(E:Int)(D:List UInt8)(B:Bx)
 (CC:∀z,qA4 w z→Calls prog 81 #[.pointer (some ⟨C,0,none⟩),.agg #[.int .i64 5,.int .i64 lba,.slice a n c]] z fun e w'=>∃v col',e= .returned (.agg #[.int .i64 E,v])∧qC4 col' w' z.heap.size v D∧qCM col' w' P M C B∧Ext 11 col col' z w') :
 Calls prog 51 #[.pointer (some ⟨C,0,none⟩),.agg #[.int .i64 5,.int .i64 lba,.slice a n c]] w fun e w'=>∃v col',e= .returned (.agg #[.int .i64 E,v])∧qC4 col' w' w.heap.size v D∧qCM col' w' P M C B∧Ext 11 col col' w w':=by
 obtain⟨A,vn,vw,h0⟩:=h
 have G:qA4 w ((w.alloc (.cells #[.int .i64 5,.int .i64 lba,.slice a n c] 34)).alloc (.cells #[.int .i64 0,.slice none 0 0] 39)):=(qal _).alloc (by simp) _
 have bT:Blk ((w.alloc (.cells #[.int .i64 5,.int .i64 lba,.slice a n c] 34)).alloc (.cells #[.int .i64 0,.slice none 0 0] 39)) (w.heap.size+1) #[.int .i64 0,.slice none 0 0] 39:=by
  have:=Blk.new (w.alloc (.cells #[.int .i64 5,.int .i64 lba,.slice a n c] 34)) #[.int .i64 0,.slice none 0 0] 39
  rw[World.size_alloc]at this
  exact this
 have V:=h0.kept G
 have q0:=V.blk.cell 0
 have q5:=V.blk.cell 5
 have r1:=V.wm.wd.blk.cell 1
 have CO:=qFO V.wm.wd
 rw[hg]at CO
 rw[hb]at q5
 have CI:=qFg ⟨5,lba,data⟩ a c (by show data.length≤_;omega)
 simp only[hdl]at CI
 rw[his]at CI
 have cT:col (w.heap.size+1)=0:=h0.top _ (by omega)
 replace hn:=qh hn
 clear his
 have a8:=@run_makeMap prog
 have a4:=qGv
 have a5:=qGw
 have b3:=qGx
 have a9:=qGy
 have a7:=qGz
 have b4:=qPS
 go_enter func51,ntmps51
 go_wp2_with fail
 refine CO.mono ?_
 rintro e w1 ⟨rfl,rfl⟩
 go_wp2_with fail
 refine(CI _).mono ?_
 rintro e w2 ⟨rfl,f⟩
 have a0:=(((Blk.new w #[.int .i64 5,.int .i64 lba,.slice a n c] 34).kept ((Below.refl _ _).alloc (by simp) (.cells #[.int .i64 0,.slice none 0 0] 39))).kept f)
 have l:qA4 w2 (w2.alloc (.map qGW 5)):=qal _
 have F:=a0.kept l
 have x0:=F.cell 0
 have x1:=F.cell 1
 have x2:=F.cell 2
 have Y:=(bT.kept f).kept l
 have I:=(G.of f).of l
 have a3:=f.size
 have a1:=(bT.kept f).lt
 have a2:=l.size
 have CZ:=CC _ I
 go_wp2_with fail
 refine CZ.mono ?_
 rintro e w4 ⟨v,J,rfl,hv,h4,e4⟩
 obtain⟨j,Z⟩:=e4.blk0 Y cT
 have f0:=j.free 0
 have f1:=j.free 1
 have y0:=j.cell 0
 have y1:=j.cell 1
 obtain⟨O,N,rfl⟩:=(Sl.of_own hv.1).len
 go_wp2_with fail
 have bR:=(j.set 0 (.int .i64 E)).set 1 (.slice O D.length N)
 have q:Chg [w.heap.size+1] w4 ((w4.setCell ⟨w.heap.size+1,0,none⟩ (.int .i64 E)).setCell ⟨w.heap.size+1,1,none⟩ (.slice O D.length N)):=((Chg.refl _ _).set qsm 0 _).set qsm 1 _
 have r0:=bR.cell 0
 have r1:=bR.cell 1
 clear f0 f1 y0 y1
 generalize ((w4.setCell ⟨w.heap.size+1,0,none⟩ (.int .i64 E)).setCell ⟨w.heap.size+1,1,none⟩ (.slice O D.length N))=wE at *
 obtain⟨A4,b5,a6,h4⟩:=h4
 refine bodyPost_ret (v:=.agg #[.int .i64 E,.slice O D.length N]) (by simp[results,results51,go_sem,r0,r1];try exact⟨rfl,rfl⟩) rfl ⟨_,J,rfl,(hv.chg q (by omega)).base (by omega),⟨_,_,_,h4.chg0 q Z⟩,((Ext.kept (m:=11) h0.top I).trans e4).newset q (by omega)⟩
theorem qOa {col:Nat→Nat}{w:World}{P:qAU}{M C:Nat}{b:Bx}(h:qCM col w P M C b)(hg:b.x.p.gone=true)(kd lba:Int)(a:Option Addr)(n c:Nat)(data:List UInt8)(_:data.length=n)(_:n≤1000000):Calls prog 51 #[.pointer (some ⟨C,0,none⟩),.agg #[.int .i64 kd,.int .i64 lba,.slice a n c]] w fun e w'=>∃v col',e= .returned (.agg #[.int .i64 7,v])∧qC4 col' w' w.heap.size v []∧qCM col' w' P M C b∧Ext 11 col col' w w':=by
 obtain⟨A,vn,vw,F⟩:=h
 have q:qA4 w ((w.alloc (.cells #[.int .i64 kd,.int .i64 lba,.slice a n c] 34)).alloc (.cells #[.int .i64 0,.slice none 0 0] 39)):=(qal _).alloc (by simp) _
 have l:Blk ((w.alloc (.cells #[.int .i64 kd,.int .i64 lba,.slice a n c] 34)).alloc (.cells #[.int .i64 0,.slice none 0 0] 39)) (w.heap.size+1) #[.int .i64 0,.slice none 0 0] 39:=by
  have:=Blk.new (w.alloc (.cells #[.int .i64 kd,.int .i64 lba,.slice a n c] 34)) #[.int .i64 0,.slice none 0 0] 39
  rw[World.size_alloc]at this
  exact this
 have j:=F.kept q
 have q0:=j.blk.cell 0
 have q5:=j.blk.cell 5
 have J:=j.wm.wd.blk.cell 1
 have N:=qFO j.wm.wd
 have V:col (w.heap.size+1)=0:=F.top _ (by omega)
 have G:Ext 11 col col w ((w.alloc (.cells #[.int .i64 kd,.int .i64 lba,.slice a n c] 34)).alloc (.cells #[.int .i64 0,.slice none 0 0] 39)):=Ext.kept F.top q
 rw[hg]at N
 go_enter func51,ntmps51
 go_wp2_with fail
 generalize ((w.alloc (.cells #[.int .i64 kd,.int .i64 lba,.slice a n c] 34)).alloc (.cells #[.int .i64 0,.slice none 0 0] 39))=wA at *
 refine N.mono ?_
 rintro e w1 ⟨rfl,rfl⟩
 have f0:=(l).free 0
 have O:=(l).free 1
 have x0:=(l).cell 0
 have Z:=(l).cell 1
 go_wp2_with fail
 have I:=((l).set 0 (.int .i64 (7))).set 1 (.slice none 0 0)
 have f:Chg [w.heap.size+1] wA ((wA.setCell ⟨w.heap.size+1,0,none⟩ (.int .i64 (7))).setCell ⟨w.heap.size+1,1,none⟩ (.slice none 0 0)):=((Chg.refl _ _).set qsm 0 _).set qsm 1 _
 have Y:=I.cell 0
 have J:=I.cell 1
 clear f0 O x0 Z
 generalize ((wA.setCell ⟨w.heap.size+1,0,none⟩ (.int .i64 (7))).setCell ⟨w.heap.size+1,1,none⟩ (.slice none 0 0))=wE at *
 refine bodyPost_ret (v:=.agg #[.int .i64 (7),.slice none 0 0]) (by simp[results,results51,go_sem,Y,J];try exact⟨rfl,rfl⟩) rfl ⟨_,col,rfl,qC4.nil,⟨_,_,_,j.chg0 f V⟩,G.newset f (Nat.le_succ _)⟩
theorem qOb {col:Nat→Nat}{w:World}{P:qAU}{M C:Nat}{b:Bx}(h:qCM col w P M C b)(hg:b.x.p.gone=false)(hb:b.c.bad=true)(kd lba:Int)(a:Option Addr)(n c:Nat)(data:List UInt8)(_:data.length=n)(_:n≤1000000):Calls prog 51 #[.pointer (some ⟨C,0,none⟩),.agg #[.int .i64 kd,.int .i64 lba,.slice a n c]] w fun e w'=>∃v col',e= .returned (.agg #[.int .i64 4,v])∧qC4 col' w' w.heap.size v []∧qCM col' w' P M C b∧Ext 11 col col' w w':=by
 obtain⟨A,vn,vw,F⟩:=h
 have q:qA4 w ((w.alloc (.cells #[.int .i64 kd,.int .i64 lba,.slice a n c] 34)).alloc (.cells #[.int .i64 0,.slice none 0 0] 39)):=(qal _).alloc (by simp) _
 have l:Blk ((w.alloc (.cells #[.int .i64 kd,.int .i64 lba,.slice a n c] 34)).alloc (.cells #[.int .i64 0,.slice none 0 0] 39)) (w.heap.size+1) #[.int .i64 0,.slice none 0 0] 39:=by
  have:=Blk.new (w.alloc (.cells #[.int .i64 kd,.int .i64 lba,.slice a n c] 34)) #[.int .i64 0,.slice none 0 0] 39
  rw[World.size_alloc]at this
  exact this
 have j:=F.kept q
 have q0:=j.blk.cell 0
 have O:=j.blk.cell 5
 have J:=j.wm.wd.blk.cell 1
 have N:=qFO j.wm.wd
 have Y:col (w.heap.size+1)=0:=F.top _ (by omega)
 have G:Ext 11 col col w ((w.alloc (.cells #[.int .i64 kd,.int .i64 lba,.slice a n c] 34)).alloc (.cells #[.int .i64 0,.slice none 0 0] 39)):=Ext.kept F.top q
 rw[hg]at N
 rw[hb]at O
 go_enter func51,ntmps51
 go_wp2_with fail
 generalize ((w.alloc (.cells #[.int .i64 kd,.int .i64 lba,.slice a n c] 34)).alloc (.cells #[.int .i64 0,.slice none 0 0] 39))=wA at *
 refine N.mono ?_
 rintro e w1 ⟨rfl,rfl⟩
 have f0:=(l).free 0
 have V:=(l).free 1
 have x0:=(l).cell 0
 have x1:=(l).cell 1
 go_wp2_with fail
 have I:=((l).set 0 (.int .i64 (4))).set 1 (.slice none 0 0)
 have f:Chg [w.heap.size+1] wA ((wA.setCell ⟨w.heap.size+1,0,none⟩ (.int .i64 (4))).setCell ⟨w.heap.size+1,1,none⟩ (.slice none 0 0)):=((Chg.refl _ _).set qsm 0 _).set qsm 1 _
 have Z:=I.cell 0
 have J:=I.cell 1
 clear f0 V x0 x1
 generalize ((wA.setCell ⟨w.heap.size+1,0,none⟩ (.int .i64 (4))).setCell ⟨w.heap.size+1,1,none⟩ (.slice none 0 0))=wE at *
 refine bodyPost_ret (v:=.agg #[.int .i64 (4),.slice none 0 0]) (by simp[results,results51,go_sem,Z,J];try exact⟨rfl,rfl⟩) rfl ⟨_,col,rfl,qC4.nil,⟨_,_,_,j.chg0 f Y⟩,G.newset f (Nat.le_succ _)⟩
theorem qOc {col:Nat→Nat}{w:World}{P:qAU}{M C:Nat}{b:Bx}(h:qCM col w P M C b)(hg:b.x.p.gone=false)(hb:b.c.bad=false)(kd lba:Int)(a:Option Addr)(n c:Nat)(data:List UInt8)(hdl:data.length=n)(hn:n≤1000000)(his:Cl.is ⟨kd,lba,data⟩=false):Calls prog 51 #[.pointer (some ⟨C,0,none⟩),.agg #[.int .i64 kd,.int .i64 lba,.slice a n c]] w fun e w'=>∃v col',e= .returned (.agg #[.int .i64 1,v])∧qC4 col' w' w.heap.size v []∧qCM col' w' P M C b∧Ext 11 col col' w w':=by
 obtain⟨A,vn,vw,I⟩:=h
 have F:qA4 w ((w.alloc (.cells #[.int .i64 kd,.int .i64 lba,.slice a n c] 34)).alloc (.cells #[.int .i64 0,.slice none 0 0] 39)):=(qal _).alloc (by simp) _
 have bT:Blk ((w.alloc (.cells #[.int .i64 kd,.int .i64 lba,.slice a n c] 34)).alloc (.cells #[.int .i64 0,.slice none 0 0] 39)) (w.heap.size+1) #[.int .i64 0,.slice none 0 0] 39:=by
  have:=Blk.new (w.alloc (.cells #[.int .i64 kd,.int .i64 lba,.slice a n c] 34)) #[.int .i64 0,.slice none 0 0] 39
  rw[World.size_alloc]at this
  exact this
 have l:=I.kept F
 have q0:=l.blk.cell 0
 have q5:=l.blk.cell 5
 have r1:=l.wm.wd.blk.cell 1
 have CO:=qFO l.wm.wd
 have cT:col (w.heap.size+1)=0:=I.top _ (by omega)
 have Z:Ext 11 col col w ((w.alloc (.cells #[.int .i64 kd,.int .i64 lba,.slice a n c] 34)).alloc (.cells #[.int .i64 0,.slice none 0 0] 39)):=Ext.kept I.top F
 rw[hg]at CO
 rw[hb]at q5
 have N:=qFg ⟨kd,lba,data⟩ a c (by show data.length≤_;omega)
 simp only[hdl]at N
 rw[his]at N
 have O:=(Blk.new w #[.int .i64 kd,.int .i64 lba,.slice a n c] 34).kept ((Below.refl _ _).alloc (by simp) (.cells #[.int .i64 0,.slice none 0 0] 39))
 have x0:=O.cell 0
 have J:=O.cell 1
 have x2:=O.cell 2
 replace hn:=qh hn
 clear his hdl
 go_enter func51,ntmps51
 go_wp2_with fail
 refine CO.mono ?_
 rintro e w1 ⟨rfl,rfl⟩
 go_wp2_with fail
 refine(N _).mono ?_
 rintro e G ⟨rfl,j⟩
 have f:=bT.kept j
 have Y:=l.kept j
 have V:=Z.trans (Ext.kept (m:=11) l.top j)
 clear x0 J x2
 have f0:=(f).free 0
 have f1:=(f).free 1
 have x0:=(f).cell 0
 have J:=(f).cell 1
 go_wp2_with fail
 have bR:=((f).set 0 (.int .i64 (1))).set 1 (.slice none 0 0)
 have q:Chg [w.heap.size+1] G ((G.setCell ⟨w.heap.size+1,0,none⟩ (.int .i64 (1))).setCell ⟨w.heap.size+1,1,none⟩ (.slice none 0 0)):=((Chg.refl _ _).set qsm 0 _).set qsm 1 _
 have r0:=bR.cell 0
 have r1:=bR.cell 1
 clear f0 f1 x0 J
 generalize ((G.setCell ⟨w.heap.size+1,0,none⟩ (.int .i64 (1))).setCell ⟨w.heap.size+1,1,none⟩ (.slice none 0 0))=wE at *
 refine bodyPost_ret (v:=.agg #[.int .i64 (1),.slice none 0 0]) (by simp[results,results51,go_sem,r0,r1];try exact⟨rfl,rfl⟩) rfl ⟨_,col,rfl,qC4.nil,⟨_,_,_,Y.chg0 q cT⟩,V.newset q (Nat.le_succ _)⟩
theorem qEZ {col:Nat→Nat}{w':World}{P:qAU}{M C:Nat}{B:Bx}{e:Ending}{E:Int}{z:World}(h:e= .returned (.agg #[.int .i64 E,.slice none 0 0])∧qGo col z P M C B w'):∃v col',e= .returned (.agg #[.int .i64 E,v])∧qC4 col' w' z.heap.size v []∧qCM col' w' P M C B∧Ext 11 col col' z w':=by
 obtain⟨c,col',f,j⟩:=h
 exact⟨_,col',c,qC4.nil,f,j⟩
theorem qT9 {col:Nat→Nat}{w:World}{P:qAU}{M C:Nat}{b:Bx}(h:qCM col w P M C b){m:Nat}(g:b.good m)(hm:m≤39000)(cl:Cl)(a:Option Addr)(c:Nat)(hn:cl.data.length≤1000000)(sd:SlC col w (.slice a cl.data.length c) cl.data):Calls prog 51 #[.pointer (some ⟨C,0,none⟩),.agg #[.int .i64 cl.kind,.int .i64 cl.lba,.slice a cl.data.length c]] w fun e w'=>∃v col',e= .returned (.agg #[.int .i64 (b.doC cl).1.1,v])∧qC4 col' w' w.heap.size v (b.doC cl).1.2∧qCM col' w' P M C (b.doC cl).2∧Ext 11 col col' w w':=by
 have Z:=h
 obtain⟨F,lba,data⟩:=cl
 simp only at hn sd ⊢
 unfold Bx.doC
 cases hg:b.x.p.gone with
 | true=>exact qOa h hg F lba a data.length c data rfl hn
 | false =>
  cases hb:b.c.bad with
  | true=>exact qOb h hg hb F lba a data.length c data rfl hn
  | false =>
   cases his:Cl.is ⟨F,lba,data⟩ with
   | false=>exact qOc h hg hb F lba a data.length c data rfl hn his
   | true =>
    have l:∀z,qA4 w z→qCM col z P M C b:=fun z q=>by
     obtain⟨A,vn,vw,Y⟩:=Z
     exact⟨A,vn,vw,Y.kept q⟩
    have N:Top col w:=by
     obtain⟨A,vn,vw,Y⟩:=Z
     exact Y.top
    simp only[Bool.false_eq_true,if_false,Bool.true_eq_false]
    have j:=his
    unfold Cl.is at j
    simp only at j
    by_cases I:F=1
    · rw[if_pos I]at j ⊢
      subst I
      exact qSn h hg hb lba a data.length c data rfl hn his _ _ _ (fun z q=>qR9 (l z q) g hm hg 1 lba j a data.length c)
    · rw[if_neg I]at j ⊢
      by_cases G:F=2
      · subst G
        rw[if_pos rfl]
        rw[if_neg (by decide),if_pos rfl]at j
        simp only[Bool.and_eq_true,decide_eq_true_eq]at j
        exact qSo h hg hb lba a data.length c data rfl hn his _ _ _ (fun z q=>(qPM (l z q) g hm 2 lba a data.length c data j.2 j.1 (sd.ext (Ext.kept (m:=11) N q))).mono (fun e w' h=>qEZ h))
      · rw[if_neg G]
        by_cases O:F=3
        · subst O
          rw[if_pos rfl]
          exact qSp h hg hb lba a data.length c data rfl hn his _ _ _ (fun z q=>(qPN (l z q) g.f (by omega) 3 lba a data.length c).mono (fun e w' h=>qEZ h))
        · rw[if_neg O]
          by_cases J:F=4
          · subst J
            rw[if_pos rfl]
            exact qSq h hg hb lba a data.length c data rfl hn his _ _ _ (fun z q=>(qMw (l z q) g hm 4 lba a data.length c).mono (fun e w' h=>qEZ h))
          · rw[if_neg J]
            rw[if_neg J,if_neg G]at j
            have V:F=5:=by
             simp only[Bool.or_eq_true,decide_eq_true_eq]at j
             omega
            subst V
            exact qSr h hg hb lba a data.length c data rfl hn his _ _ _ (fun z q=>(qO9 (l z q) g hm 5 lba a data.length c).mono (fun e w' h=>qEZ h))
def dye (col:Nat→Nat)(g i:Nat):Nat→Nat:=fun k=>if k=g then i else col k
section
variable {col:Nat→Nat} {w:World} {g i:Nat} {P:qAU} {x:Wd}
theorem qFY:dye col g i g=i:=if_pos rfl
theorem qJi {k:Nat}(h:k≠g):dye col g i k=col k:=if_neg h
theorem Top.dye (h:Top col w)(hg:g<w.heap.size):Top (dye col g i) w:=fun k c=>by rw[qJi (by omega)];exact h k c
theorem qB0.dye {j:Nat}(hg:col g=0)(hj:j≠0):qB0 j col (dye col g i) w w:=
 ⟨Nat.le_refl _,fun k _ c=>by rw[qJi (fun e=>hj (by rw[←c,e,hg]))];exact c,fun _ _ _=>rfl⟩
theorem qAW.dye (h:qAW col w P x)(hg:col g=0)(hl:g<w.heap.size)(hi:7<i):qAW (dye col g i) w P x:=
 h.free (fun j l _=>qB0.dye hg (by omega)) (Top.dye h.top hl) (fun k f c=>by
  by_cases e:k=g
  · subst e;rw[qFY]at c;omega
  · rw[qJi e]at c;exact⟨f,c⟩)
theorem Ext.dye {m:Nat}{col0:Nat→Nat}{w0:World}(e:Ext m col0 col w0 w)(hg:w0.heap.size≤g)(hl:g<w.heap.size)(hi:i≤m):Ext m col0 (dye col g i) w0 w:=
 ⟨e.os,e.tape,e.output,e.size,fun k c=>by rw[qJi (by omega)];exact e.old k c,fun k c=>by
  by_cases h:k=g
  · subst h;rw[qFY];exact hi
  · rw[qJi h];exact e.new k c,Top.dye e.top hl,e.block⟩
theorem qAW.paint {w':World}(h:qAW col w P x)(hk:qA4 w w')(hi:7<i):qAW (qAi col i w w') w' P x:=
 h.free (fun j _ _=>qB0.paint hk) (Ext.paint (m:=i) h.top hk qle).top (fun j hl c=>by
  by_cases f:j<w.heap.size
  · rw[qAd f]at c;exact⟨f,c⟩
  · rw[qAk (by omega) hl]at c;omega)
end
def tch (ls:List Lf):Nat→Ag
 | 0=>Ag.none
 | k+1=>if(ls[k]?.getD Lf.zero).kind≠0 then(tch ls k).touch k else tch ls k
theorem qIl (ls:List Lf):∀k,(tch ls k).q.Nodup∧(∀s,s∈(tch ls k).q↔s<k∧(ls[s]?.getD Lf.zero).kind≠0)∧(tch ls k).ticks≤k
 | 0=>⟨List.nodup_nil,fun s=>⟨fun h=>(by cases h),fun h=>absurd h.1 (by omega)⟩,Nat.le_refl _⟩
 | k+1=>by
  obtain⟨f,F,G⟩:=qIl ls k
  unfold tch
  split
  · rename_i l
    refine⟨qEn f k,fun s=>?_,by rw[qEm];omega⟩
    rw[qGr f,F]
    constructor
    · rintro(e|⟨j,c⟩)
      · subst e;exact⟨by omega,l⟩
      · exact⟨by omega,c⟩
    · rintro⟨j,c⟩
      by_cases e:s=k
      · exact .inl e
      · exact .inr ⟨by omega,c⟩
  · rename_i l
    refine⟨f,fun s=>?_,by omega⟩
    rw[F]
    constructor
    · rintro⟨j,c⟩;exact⟨by omega,c⟩
    · rintro⟨j,c⟩
      refine⟨?_,c⟩
      by_cases e:s=k
      · subst e;exact absurd c l
      · omega
theorem qRa (ls:List Lf)(k:Nat):(tch ls k).q.length≤k:=by
 obtain⟨f,h,_⟩:=qIl ls k
 exact qFX k _ f (fun s c=>((h s).1 c).1)
def Wd.fresh (x:Wd)(ls:List Lf):Bx:=⟨x,x.c.boots,0,⟨ls,ls,tch ls ls.length,false⟩⟩
def Bx.openR (r:Int×Bx):Int×Wd×Option Bx:=if r.1≠0 then(r.1,r.2.x,none) else(0,r.2.x,some r.2)
def Wd.opensL (x:Wd):Option (List Lf)→Int×Wd×Option Bx
 | none=>(3,x.loadX,none)
 | some ls=>Bx.openR (x.loadX.fresh ls).finish
def Wd.opens (x:Wd):Int×Wd×Option Bx:=
 if x.p.gone then(7,x,none)
 else if x.p.spend.1=false then(7,x.boot,none)
 else x.boot.opensL x.boot.loadO
theorem qMx {x:Wd}{a:Nat}{top:qAD}{ls:List Lf}(h:x.areaGet a top=some ls):ls.length=x.n∧qB7 ls:=by
 unfold Wd.areaGet at h
 split at h
 · obtain⟨l,q⟩:=qGj _ _ _ h
   rw[qBf]at l
   refine⟨l,fun i y f=>?_⟩
   have G:=(List.getElem?_eq_some_iff.1 f).1
   obtain⟨r,F⟩:∃r,(x.areaRows a)[i]? = some r:=⟨_,List.getElem?_eq_getElem (by rw[qBf];omega)⟩
   have c:=q i r y F f
   unfold qBO at c
   split at c
   · rename_i j
     cases c
     rw[Nat.zero_add]at j
     have:=j.2.1
     simpa using this
   · cases c
 · cases h
theorem qLr (n:Nat)(hn:n≤16):qB7 (List.replicate n Lf.zero):=fun s y f=>by
 obtain⟨h,c⟩:=List.getElem?_eq_some_iff.1 f
 rw[List.getElem_replicate]at c
 rw[List.length_replicate]at h
 subst c
 unfold qAM
 simp[Lf.zero]
 omega
theorem qIm {x:Wd}(hn:x.n≤16){ls:List Lf}(h:x.loadO=some ls):ls.length=x.n∧qB7 ls:=by
 unfold Wd.loadO at h
 split at h
 · cases h
   exact⟨List.length_replicate,qLr _ hn⟩
 · split at h
   · cases h
   · exact qMx h
theorem qDT {x:Wd}{m:Nat}(f:x.fine m)(hp:0#32<qAl x.eps){ls:List Lf}(hl:ls.length=x.n)(ho:qB7 ls):(x.fresh ls).good (m+16):=by
 have j:=qAo f.ok.sl
 obtain⟨h,l,F⟩:=qIl ls ls.length
 refine⟨⟨f.up (by omega),Nat.zero_le _,hl,hl,ho,ho⟩,h,fun s=>?_,by show(tch ls ls.length).ticks≤_;omega,hp⟩
 show s∈(tch ls ls.length).q↔(ls[s]?.getD Lf.zero).kind≠0
 rw[l]
 constructor
 · exact fun e=>e.2
 · intro e
   refine⟨?_,e⟩
   by_cases c:s<ls.length
   · exact c
   · rw[List.getElem?_eq_none (by omega)]at e
     exact absurd rfl e
theorem qRb {x:Wd}(h:x.p.spend.1=true):x.boot.p.gone=false:=by
 have e:x.boot.p=x.p.spend.2:=by unfold Wd.boot;rfl
 rw[e]
 exact(qCh h).2
def qF4 (col:Nat→Nat)(w:World)(P:qAU)(o:Option Bx)(x:Wd)(v:Value):Prop:=match o with
 | none=>v= .pointer none∧qAW col w P x
 | some B=>∃M C,v= .pointer (some ⟨C,0,none⟩)∧qCM col w P M C B
theorem qOd {col:Nat→Nat}{w w1 w2 w3 w4 w5:World}{P:qAU}{x:Wd}{N g1 c1 g2 c2 A:Nat}{ls:List Lf}{col5:Nat→Nat}
 (hW:qAW col w1 P x) (hx:Ext 6 col col w w1) (hT:Top col w) (hr:w1.ownsRow w.heap.size 117 8 (.slice (some ⟨g1,0,none⟩) N c1) N (qAv ls)) (hN:N=ls.length)
 (hm:qJS w4 w3.heap.size x.c.boots 0) (k3:qA4 w1 w3) (k4:qA4 w3 w4) (hr2:w2.ownsRow w4.heap.size 117 8 (.slice (some ⟨g2,0,none⟩) N c2) N (qAv ls)) (k2:qA4 w4 w2)
 (ha:qKz col5 w5 A ⟨List.replicate 16 0,0,[]⟩) (o:One 11 (qAi (qAi (dye col g1 10) 8 w3 w4) 10 w4 w2) col5 w2 w5) :
 qBm (qAi col5 9 w5 (w5.alloc (.cells #[.pointer (some ⟨P.W,0,none⟩),.pointer (some ⟨w3.heap.size,0,none⟩),.slice (some ⟨g1,0,none⟩) N c1,.slice (some ⟨g2,0,none⟩) N c2,.pointer (some ⟨A,0,none⟩),.bool false] 121))) (w5.alloc (.cells #[.pointer (some ⟨P.W,0,none⟩),.pointer (some ⟨w3.heap.size,0,none⟩),.slice (some ⟨g1,0,none⟩) N c1,.slice (some ⟨g2,0,none⟩) N c2,.pointer (some ⟨A,0,none⟩),.bool false] 121)) P w3.heap.size w5.heap.size A (.slice (some ⟨g1,0,none⟩) N c1) (.slice (some ⟨g2,0,none⟩) N c2) ⟨x,x.c.boots,0,⟨ls,ls,Ag.none,false⟩⟩∧Ext 11 col (qAi col5 9 w5 (w5.alloc (.cells #[.pointer (some ⟨P.W,0,none⟩),.pointer (some ⟨w3.heap.size,0,none⟩),.slice (some ⟨g1,0,none⟩) N c1,.slice (some ⟨g2,0,none⟩) N c2,.pointer (some ⟨A,0,none⟩),.bool false] 121))) w (w5.alloc (.cells #[.pointer (some ⟨P.W,0,none⟩),.pointer (some ⟨w3.heap.size,0,none⟩),.slice (some ⟨g1,0,none⟩) N c1,.slice (some ⟨g2,0,none⟩) N c2,.pointer (some ⟨A,0,none⟩),.bool false] 121)):=by
 have q:g1<w1.heap.size:=qAp hr rfl
 have h:w.heap.size≤g1:=qAN hr rfl
 have c0:col g1=0:=hT _ h
 have z3:=k3.size
 have z4:=k4.size
 have z2:=k2.size
 have hD:=(hW.dye c0 q (i:=10) (by decide)).kept k3
 have a2:=hD.paint k4 (i:=8) (by decide)
 have a4:WM (qAi (dye col g1 10) 8 w3 w4) w4 P x w3.heap.size x.c.boots 0:=⟨a2,hm,qAk qle (Blk.lt hm)⟩
 have Y:=a4.paint k2 (i:=10) (by decide)
 have G:=Y.one o (by decide)
 have F:qA4 w5 (w5.alloc (.cells #[.pointer (some ⟨P.W,0,none⟩),.pointer (some ⟨w3.heap.size,0,none⟩),.slice (some ⟨g1,0,none⟩) N c1,.slice (some ⟨g2,0,none⟩) N c2,.pointer (some ⟨A,0,none⟩),.bool false] 121)):=qal _
 have a0:=G.paint F (i:=9) (by decide)
 have e1:Ext 11 col (dye col g1 10) w w1:=(hx.mono (by decide)).dye h q (by decide)
 have e3:Ext 11 (dye col g1 10) (dye col g1 10) w1 w3:=Ext.kept (Top.dye hW.top q) k3
 have e4:Ext 11 (dye col g1 10) (qAi (dye col g1 10) 8 w3 w4) w3 w4:=Ext.paint e3.top k4 (by decide)
 have e2:Ext 11 (qAi (dye col g1 10) 8 w3 w4) (qAi (qAi (dye col g1 10) 8 w3 w4) 10 w4 w2) w4 w2:=Ext.paint e4.top k2 (by decide)
 have J:Ext 11 (qAi (qAi (dye col g1 10) 8 w3 w4) 10 w4 w2) col5 w2 w5:=o.ext (by decide) (by decide)
 have e6:Ext 11 col5 (qAi col5 9 w5 (w5.alloc (.cells #[.pointer (some ⟨P.W,0,none⟩),.pointer (some ⟨w3.heap.size,0,none⟩),.slice (some ⟨g1,0,none⟩) N c1,.slice (some ⟨g2,0,none⟩) N c2,.pointer (some ⟨A,0,none⟩),.bool false] 121))) w5 (w5.alloc (.cells #[.pointer (some ⟨P.W,0,none⟩),.pointer (some ⟨w3.heap.size,0,none⟩),.slice (some ⟨g1,0,none⟩) N c1,.slice (some ⟨g2,0,none⟩) N c2,.pointer (some ⟨A,0,none⟩),.bool false] 121)):=Ext.paint J.top F (by decide)
 have z5:=J.size
 have a1:col5 g1=10:=by
  rw[J.old _ (by omega),e2.old _ (by omega),e4.old _ (by omega)]
  exact qFY
 have O:g2<w2.heap.size:=qAp hr2 rfl
 have Z:w4.heap.size≤g2:=qAN hr2 rfl
 have l:qAi (qAi (dye col g1 10) 8 w3 w4) 10 w4 w2 g2=10:=qAk Z O
 have a3:col5 g2=10:=by rw[J.old _ O];exact l
 have V:qAi (qAi (dye col g1 10) 8 w3 w4) 10 w4 w2 g1=10:=by
  rw[e2.old _ (by omega),e4.old _ (by omega)]
  exact qFY
 have I:=o.same (j:=10) (by decide)
 have n5:=I.own (qA5 (qA5 (qA5 hr k3) k4) k2) (fun g f=>by cases f;exact V)
 have v5:=I.own hr2 (fun g f=>by cases f;exact l)
 refine⟨⟨a0,Blk.new w5 _ _,qAk qle (Blk.new w5 #[.pointer (some ⟨P.W,0,none⟩),.pointer (some ⟨w3.heap.size,0,none⟩),.slice (some ⟨g1,0,none⟩) N c1,.slice (some ⟨g2,0,none⟩) N c2,.pointer (some ⟨A,0,none⟩),.bool false] 121).lt,(by show World.ownsRow _ 0 117 8 _ ls.length _;rw[←hN];exact qAh (qA5 n5 F) (Nat.zero_le _)),(by show World.ownsRow _ 0 117 8 _ ls.length _;rw[←hN];exact qAh (qA5 v5 F) (Nat.zero_le _)),fun g f=>?_,fun g f=>?_,fun g f e=>?_,ha.frame (qB0.paint F)⟩,((((e1.trans e3).trans e4).trans e2).trans J).trans e6⟩
 · cases f
   rw[qAd (show g1<w5.heap.size by omega)]
   exact a1
 · cases f
   rw[qAd (show g2<w5.heap.size by omega)]
   exact a3
 · cases f
   have e':g2=g1:=by simpa [Value.ownBlock] using e
   omega
theorem qOe {col:Nat→Nat}{w:World}{P:qAU}{x:Wd}{m:Nat}(h:qAW col w P x)(f:x.fine m)(hm:m≤38000)(hp:0#32<qAl x.eps) :
 Calls prog 24 #[.pointer (some ⟨P.W,0,none⟩)] w fun e w'=>∃v col',e= .returned (.tuple #[v,.int .i64 x.opens.1])∧qF4 col' w' P x.opens.2.2 x.opens.2.1 v∧Ext 11 col col' w w':=by
 have bW:=h.blk
 have q1:=bW.cell 1
 have q4:=bW.cell 4
 have CO:=qFO h
 have CB:=qQY h f.ok (by omega)
 obtain⟨R,hR⟩:∃R,R=x.opens:=⟨_,rfl⟩
 rw[←hR]
 have O:R=if x.p.gone then(7,x,none) else if x.p.spend.1=false then(7,x.boot,none) else x.boot.opensL x.boot.loadO:=hR
 have hon:=qRb (x:=x)
 have I:=qAo f.ok.sl
 obtain⟨G,hG⟩:∃G,G=x.p.gone:=⟨_,rfl⟩
 obtain⟨S,hS⟩:∃S,S=x.p.spend.1:=⟨_,rfl⟩
 rw[←hG]at CO O
 rw[←hS]at CB O hon
 replace O:=qh O
 replace hon:=qh hon
 replace I:=qh I
 clear hR hG hS
 cases G with
 | true =>
  have hr:R=(7,x,none):=by rw[O.out,if_pos rfl]
  subst hr
  go_enter func24,ntmps24
  go_wp2_with fail
  refine CO.mono ?_
  rintro e w1 ⟨rfl,rfl⟩
  go_wp2_with fail
  refine bodyPost_ret (v:=.tuple #[.pointer none,.int .i64 7]) (by simp[results,results24,go_sem];done) rfl ⟨_,col,rfl,⟨rfl,h⟩,Ext.refl h.top⟩
 | false =>
 have a5:R=if S=false then(7,x.boot,none) else x.boot.opensL x.boot.loadO:=by rw[O.out,if_neg (by decide)]
 replace a5:=qh a5
 clear O
 cases S with
 | false =>
  have hr:R=(7,x.boot,none):=by rw[a5.out,if_pos rfl]
  subst hr
  go_enter func24,ntmps24
  go_wp2_with fail
  refine CO.mono ?_
  rintro e w1 ⟨rfl,rfl⟩
  go_wp2_with fail
  refine CB.mono ?_
  rintro e w2 ⟨rfl,j,b7,e2⟩
  go_wp2_with fail
  refine bodyPost_ret (v:=.tuple #[.pointer none,.int .i64 7]) (by simp[results,results24,go_sem];done) rfl ⟨_,j,rfl,⟨rfl,b7⟩,e2.mono (by decide)⟩
 | true =>
 have J:R=x.boot.opensL x.boot.loadO:=by rw[a5.out,if_neg (by decide)]
 replace J:=qh J
 have fb:=f.boot
 have e1:0#32<qAl x.boot.eps:=hp
 obtain⟨y,hy⟩:∃y,y=x.boot:=⟨_,rfl⟩
 rw[←hy]at CB J fb e1 hon
 have a4:y.n=x.n:=by rw[hy];rfl
 replace a4:=qh a4
 clear a5 hy
 go_enter func24,ntmps24
 go_wp2_with fail
 refine CO.mono ?_
 rintro e w1 ⟨rfl,rfl⟩
 go_wp2_with fail
 refine CB.mono ?_
 rintro e w2 ⟨rfl,j,b7,e2⟩
 have CL:=qKw b7 fb (by omega) (hon.out trivial)
 obtain⟨o,ho⟩:∃o,o=y.loadO:=⟨_,rfl⟩
 have a8:∀ls,y.loadO=some ls→ls.length=y.n∧qB7 ls:=fun ls=>qIm (x:=y) (by rw[a4.out];have:=I.out;omega)
 rw[←ho]at CL J a8
 replace a8:=qh a8
 clear q1 q4 ho
 cases o with
 | none =>
  have hr:R=(3,y.loadX,none):=J.out
  replace hr:=qh hr
  have a6:Calls prog 44 #[.pointer (some ⟨P.W,0,none⟩)] w2 fun e w'=>∃v,e= .returned (.tuple #[v,.int .i64 3])∧qAW j w' P y.loadX∧Ext 6 j j w2 w':=CL.mono (by rintro e w' ⟨v,h1,_,h3,h4⟩;exact⟨v,h1,h3,h4⟩)
  clear CL
  go_wp2_with fail
  refine a6.mono ?_
  rintro e w3 ⟨v,rfl,a0,e3⟩
  go_wp2_with fail
  refine bodyPost_ret (v:=.tuple #[.pointer none,.int .i64 3]) (by simp[results,results24,go_sem];done) rfl ⟨_,j,by rw[hr.out],by rw[hr.out];exact⟨rfl,a0⟩,(e2.trans e3).mono (by decide)⟩
 | some ls =>
  have hr:R=Bx.openR (y.loadX.fresh ls).finish:=J.out
  obtain⟨b6,c0⟩:=a8.out ls rfl
  have a6:Calls prog 44 #[.pointer (some ⟨P.W,0,none⟩)] w2 fun e w'=>∃v,e= .returned (.tuple #[v,.int .i64 0])∧w'.ownsRow w2.heap.size 117 8 v ls.length (qAv ls)∧qAW j w' P y.loadX∧Ext 6 j j w2 w':=CL.mono (by rintro e w' ⟨v,h1,h2,h3,h4⟩;exact⟨v,h1,h2 ls rfl,h3,h4⟩)
  have fX:=fb.loadX
  have b4:y.loadX.p.gone=false:=by rw[qBu.2.2.2.2.1];exact hon.out trivial
  have d8:0#32<qAl y.loadX.eps:=by rw[qBu.2.1];exact e1
  have c6:ls.length=y.loadX.n:=by rw[qBu.1];exact b6
  have gX:=qDT fX d8 c6 c0
  obtain⟨X,hX⟩:∃X,X=y.loadX:=⟨_,rfl⟩
  rw[←hX]at a6 hr fX b4 gX
  have e0:=fX.ok.cb
  have a2:0<ls.length∧ls.length≤16:=by have h1:=I.out;rw[b6,a4.out];omega
  replace hr:=qh hr
  replace c0:=qh c0
  replace b4:=qh b4
  have V:=a2.1
  have c4:=a2.2
  obtain⟨N,hN⟩:∃N,N=ls.length:=⟨_,rfl⟩
  rw[←hN]at a6 V c4
  have HN:=qh hN
  clear CL a8 J hX d8 c6 b6 I a2 hN a4
  go_wp2_with fail
  refine a6.mono ?_
  rintro e w3 ⟨v,rfl,hv,a0,e3⟩
  obtain⟨Z,c1,rfl⟩:=qAy hv V
  have f4:=a0.blk
  have q4:=f4.cell 4
  have f1:=qPD a0
  have a3:X.c.boots.toNat≤4294967295:=by omega
  have CM:=qMW X.c.boots a3 w3
  replace a3:=qh a3
  replace e0:=qh e0
  go_wp2_with fail
  refine f1.mono ?_
  rintro e w4 ⟨rfl,rfl⟩
  go_wp2_with fail
  refine CM.mono ?_
  rintro e w4 ⟨rfl,f3,k4⟩
  clear q4
  have CC:=qLm Z c1 ls (by rw[←HN.out];omega) w4 (by rw[←HN.out];exact qAh (qA5 hv k4) (Nat.zero_le _))
  rw[←HN.out]at CC
  go_wp2_with fail
  refine CC.mono ?_
  rintro e w5 ⟨v2,rfl,e5,k5⟩
  obtain⟨g2,c2,rfl⟩:=qAy e5 V
  have f0:Z<w3.heap.size:=qAp hv rfl
  have d9:w2.heap.size≤Z:=qAN hv rfl
  have cz:j Z=0:=e2.top _ d9
  have hD:=a0.dye cz f0 (i:=10) (by decide)
  have e8:=hD.paint k4 (i:=8) (by decide)
  have c8:=e8.paint k5 (i:=10) (by decide)
  go_wp2_with fail
  refine(qIf c8.top).mono ?_
  rintro e w6 ⟨A,e4,rfl,hA,o6,_,_⟩
  obtain⟨hB,eB⟩:=qOd (w:=w2) (col:=j) a0 e3 e2.top hv HN.out f3 (Below.refl _ _) k4 e5 k5 hA o6
  have e7:=(e2.mono (show 6≤11 by decide)).trans eB
  go_wp2_with fail
  generalize (w6.alloc (.cells #[.pointer (some ⟨P.W,0,none⟩),.pointer (some ⟨w3.heap.size,0,none⟩),.slice (some ⟨Z,0,none⟩) N c1,.slice (some ⟨g2,0,none⟩) N c2,.pointer (some ⟨A,0,none⟩),.bool false] 121))=wQ at *
  generalize (qAi e4 9 w6 wQ)=colQ at *
  generalize w6.heap.size=C at *
  generalize w3.heap.size=M at *
  go_loopw [59] (fun i wr=>∃(k:Nat) (ck:Nat→Nat),i= .int .i64 k∧k≤N∧qBm ck wr P M C A (.slice (some ⟨Z,0,none⟩) N c1) (.slice (some ⟨g2,0,none⟩) N c2) ⟨X,X.c.boots,0,⟨ls,ls,tch ls k,false⟩⟩∧Ext 11 col ck w wr) (fun i _=>N - (intOf i).toNat)
  case atStart=>exact⟨0,colQ,rfl,by omega,hB,e7⟩
  case round =>
   obtain⟨k,ck,rfl,hk,hb,eb⟩:=hrel
   by_cases c7:k<N
   · have m1:(k:Int)<(N:Int):=by omega
     have m2:(0:Int)≤(k:Int):=by omega
     have f2:k<ls.length:=by rw[←HN.out];exact c7
     obtain⟨y,hy⟩:∃y,y=ls[k]:=⟨_,rfl⟩
     have c5:ls[k]? = some y:=by rw[List.getElem?_eq_getElem f2,hy]
     have a7:=hb.now
     rw[show(⟨ls,ls,tch ls k,false⟩:Ca).now.length=N from HN.out.symm]at a7
     have hw:=qBQ a7 k y c5
     have d0:wr.cell? ⟨Z,k*8,none⟩=some (.int .i64 y.kind):=hw 0 _ rfl
     have d1:wr.cell? ⟨Z,k*8+1,none⟩=some (.bool y.dirty):=hw 1 _ rfl
     have d2:wr.cell? ⟨Z,k*8+2,none⟩=some (.int .i64 y.lba):=hw 2 _ rfl
     have d3:wr.cell? ⟨Z,k*8+3,none⟩=some (W y.ep):=hw 3 _ rfl
     have d4:wr.cell? ⟨Z,k*8+4,none⟩=some (W y.sl):=hw 4 _ rfl
     have d5:wr.cell? ⟨Z,k*8+5,none⟩=some (U y.ver):=hw 5 _ rfl
     have d6:wr.cell? ⟨Z,k*8+6,none⟩=some (U y.tag.1):=hw 6 _ rfl
     have d7:wr.cell? ⟨Z,k*8+7,none⟩=some (U y.tag.2):=hw 7 _ rfl
     have b8:qA4 wr (wr.alloc (.cells #[.int .i64 y.kind,.bool y.dirty,.int .i64 y.lba,W y.ep,W y.sl,U y.ver,U y.tag.1,U y.tag.2] 117)):=qal _
     have a1:=hb.kept b8
     have b9:=eb.trans (Ext.kept (m:=11) hb.top b8)
     have a9:tch ls (k+1)=if y.kind≠0 then(tch ls k).touch k else tch ls k:=by
      conv=>lhs;unfold tch
      rw[c5];rfl
     have f6:=qRa ls k
     have f7:=(qIl ls k).2.2
     replace a9:=qh a9
     have q4:=a1.blk.cell 4
     clear hy c5 hw a7
     by_cases b3:y.kind=0
     · have Y:tch ls (k+1)=tch ls k:=by rw[a9.out,if_neg (by rw[b3];decide)]
       replace Y:=qh Y
       rw[b3]at d0 a1 b9
       clear b3 b8 q4
       go_wp2_with fail
       exact⟨⟨k+1,ck,rfl,by omega,by rw[Y.out];exact a1,b9⟩,by simp[intOf];omega⟩
     · have Y:tch ls (k+1)=(tch ls k).touch k:=by rw[a9.out,if_pos b3]
       replace Y:=qh Y
       have CT:=qFo a1.age a1.top k (by omega) (by show(tch ls k).q.length≤_;omega) (by show(tch ls k).ticks≤_;omega)
       go_wp2_with fail
       refine CT.mono ?_
       rintro e w9 ⟨rfl,c9,h9,o9⟩
       go_wp2_with fail
       exact⟨⟨k+1,c9,rfl,by omega,by rw[Y.out];exact a1.aged h9 o9,b9.trans (o9.ext (by decide) (by decide))⟩,by simp[intOf];omega⟩
   · have m3:¬(k:Int)<(N:Int):=by omega
     have e6:k=ls.length:=by rw[←HN.out];omega
     have f5:qCM ck wr P M C (X.fresh ls):=by
      subst e6
      exact⟨A,_,_,hb⟩
     have c3:=qO7 f5 gX (by omega) b4.out
     obtain⟨F,hF⟩:∃F,F=(X.fresh ls).finish:=⟨_,rfl⟩
     rw[←hF]at c3
     have b5:R=Bx.openR F:=by rw[hr.out,hF]
     obtain⟨E,B⟩:=F
     simp only at c3
     replace b5:=qh b5
     clear c7 e6 hF
     go_wp2_with fail
     refine c3.mono ?_
     rintro e w9 ⟨rfl,c9,h9,e9⟩
     by_cases hE:E=0
     · have l:R=(0,B.x,some B):=by rw[b5.out];unfold Bx.openR;rw[if_neg (fun e=>e hE)]
       replace l:=qh l
       go_wp2_with fail
       refine bodyPost_ret (v:=.tuple #[.pointer (some ⟨C,0,none⟩),.int .i64 0]) (by simp[results,results24,go_sem];done) rfl ⟨_,c9,by rw[l.out],by rw[l.out];exact⟨M,C,rfl,h9⟩,eb.trans e9⟩
     · have l:R=(E,B.x,none):=by rw[b5.out];unfold Bx.openR;rw[if_pos hE]
       replace l:=qh l
       go_wp2_with fail
       refine bodyPost_ret (v:=.tuple #[.pointer none,.int .i64 E]) (by simp[results,results24,go_sem];done) rfl ⟨_,c9,by rw[l.out],by rw[l.out];obtain⟨A9,n9,w9,h9⟩:=h9;exact⟨rfl,h9.wm.wd⟩,eb.trans e9⟩
def Wd.new (n:Nat)(seed:BitVec 64)(ideal:Bool):Wd:=⟨n,Pw.new,⟨Pw.new,List.replicate (gSize n) 0,[],[]⟩,⟨Pw.new,List.replicate 32 (List.replicate 32 0),[],[],false⟩,Cn.zero,seed,[1#32],if ideal then .ideal [] [] else .real⟩
theorem qGA (m:Nat):Pw.new.ok m:=⟨by decide,by show(0:Int)≤m;omega,fun c=>by cases c⟩
theorem Wd.new_fine (n:Nat)(seed:BitVec 64)(ideal:Bool)(hs:qD9 (n:Int)=true):(Wd.new n seed ideal).fine 0:=by
 refine⟨⟨hs,⟨List.length_replicate,fun x c=>(by cases c),fun x c=>(by cases c),Nat.le_refl _,Nat.le_refl _,qGA 0⟩,⟨List.length_replicate,fun x c=>?_,fun x c=>(by cases c),fun x c=>(by cases c),Nat.le_refl _,Nat.le_refl _,qGA 0⟩,(by show 0< [1#32].length;decide),(by show [1#32].length≤1;decide),List.pairwise_singleton _ _,(by show(qAl [1#32]).toNat≤1;decide),(by show Cn.zero.value.toNat≤0;decide),(by show Cn.zero.boots.toNat≤0;decide)⟩,?_,?_⟩
 · rw[List.eq_of_mem_replicate c]
   exact List.length_replicate
 · show Lk.few (if ideal then .ideal [] [] else .real) 0
   cases ideal
   · trivial
   · exact⟨Nat.le_refl _,Nat.le_refl _⟩
 · show Lk.dataOk (if ideal then .ideal [] [] else .real)
   cases ideal
   · trivial
   · intro x c
     cases c
theorem qHs {w w1 w2 w3 z2 z3 z4 z5 z6 z7:World}{n:Nat}{seed:BitVec 64}{lk:Lk}{L S Dd:Nat}{s:Sd}{d:Dk}
 (_:s.p=Pw.new) (_:d.p=Pw.new)
 (p1:qD1 w1 w.heap.size Pw.new) (k1:qA4 w w1) (n1:w1.heap.size=w.heap.size+1) (k2:qA4 w1 w2)
 (k3:qA4 w2 w3) (hl:LkC (qAi (qAi (fun _=>0) 6 w w1) 5 w2 w3) w3 L lk) (kz:qA4 w3 z2)
 (hS:qGP (But (qAi (qAi (fun _=>0) 6 w w1) 5 w2 w3) z2 1) z3 S w.heap.size s) (k4:qA4 z2 z3)
 (hD:qJH (But (qAi (qAi (qAi (fun _=>0) 6 w w1) 5 w2 w3) 1 z2 z3) z3 2) z4 Dd w.heap.size d) (k5:qA4 z3 z4)
 (hC:qHM z5 z4.heap.size w.heap.size Cn.zero) (k6:qA4 z4 z5)
 (hK:qBt 96 z6 (z5.heap.size+1) w.heap.size z5.heap.size seed [1#32] 1) (k7:qA4 z5 z6)
 (hW:Blk z7 z6.heap.size #[.int .i64 n,.pointer (some ⟨w.heap.size,0,none⟩),.pointer (some ⟨S,0,none⟩),.pointer (some ⟨Dd,0,none⟩),.pointer (some ⟨z4.heap.size,0,none⟩),.pointer (some ⟨z5.heap.size+1,0,none⟩),.pointer (some ⟨L,0,none⟩)] 67) (k8:qA4 z6 z7) :
 ∃col',qAW col' z7 ⟨z6.heap.size,w.heap.size,S,Dd,z4.heap.size,z5.heap.size+1,L⟩ ⟨n,Pw.new,s,d,Cn.zero,seed,[1#32],lk⟩∧Ext 7 (fun _=>0) col' w z7:=by
 have t0:Top (fun _:Nat=>0) w:=fun _ _=>rfl
 have e1:Ext 7 (fun _=>0) (qAi (fun _=>0) 6 w w1) w w1:=Ext.paint t0 k1 (by decide)
 have e2:Ext 7 (qAi (fun _=>0) 6 w w1) (qAi (fun _=>0) 6 w w1) w1 w2:=Ext.kept e1.top k2
 have e3:Ext 7 (qAi (fun _=>0) 6 w w1) (qAi (qAi (fun _=>0) 6 w w1) 5 w2 w3) w2 w3:=Ext.paint e2.top k3 (by decide)
 obtain⟨A,hA⟩:∃A,A=qAi (qAi (fun _=>0) 6 w w1) 5 w2 w3:=⟨_,rfl⟩
 rw[←hA]at hl hS hD e3
 have ez:Ext 7 A A w3 z2:=Ext.kept e3.top kz
 have e4:Ext 7 A (qAi A 1 z2 z3) z2 z3:=Ext.paint ez.top k4 (by decide)
 obtain⟨B,V⟩:∃B,B=qAi A 1 z2 z3:=⟨_,rfl⟩
 have e5:Ext 7 B (qAi B 2 z3 z4) z3 z4:=Ext.paint (by rw[V];exact e4.top) k5 (by decide)
 obtain⟨N,G⟩:∃C,C=qAi B 2 z3 z4:=⟨_,rfl⟩
 have e6:Ext 7 N (qAi N 3 z4 z5) z4 z5:=Ext.paint (by rw[G];exact e5.top) k6 (by decide)
 obtain⟨J,q⟩:∃C,C=qAi N 3 z4 z5:=⟨_,rfl⟩
 have e7:Ext 7 J (qAi J 4 z5 z6) z5 z6:=Ext.paint (by rw[q];exact e6.top) k7 (by decide)
 obtain⟨I,f⟩:∃C,C=qAi J 4 z5 z6:=⟨_,rfl⟩
 have e8:Ext 7 I (qAi I 7 z6 z7) z6 z7:=Ext.paint (by rw[f];exact e7.top) k8 (by decide)
 obtain⟨Y,F⟩:∃C,C=qAi I 7 z6 z7:=⟨_,rfl⟩
 have b3:=k2.size
 have a9:=k3.size
 have b6:=kz.size
 have a1:=k4.size
 have a3:=k5.size
 have b4:=k6.size
 have b5:=k7.size
 have a8:=k8.size
 have o1:∀k,qAi (fun _:Nat=>0) 6 w w1 k=6→k=w.heap.size:=fun k l=>by
  unfold qAi at l
  split at l
  · omega
  · cases l
 have step:∀(c:Nat→Nat) (i:Nat) (u u':World),i≠6→(∀k,c k=6→k=w.heap.size)→∀k,qAi c i u u' k=6→k=w.heap.size:=fun c i u u' hi h k l=>by
  unfold qAi at l
  split at l
  · exact absurd l hi
  · exact h k l
 have oA:∀k,A k=6→k=w.heap.size:=by rw[hA];exact step _ _ _ _ (by decide) o1
 have oB:∀k,B k=6→k=w.heap.size:=by rw[V];exact step _ _ _ _ (by decide) oA
 have oC:∀k,N k=6→k=w.heap.size:=by rw[G];exact step _ _ _ _ (by decide) oB
 have oD:∀k,J k=6→k=w.heap.size:=by rw[q];exact step _ _ _ _ (by decide) oC
 have oE:∀k,I k=6→k=w.heap.size:=by rw[f];exact step _ _ _ _ (by decide) oD
 have oF:∀k,Y k=6→k=w.heap.size:=by rw[F];exact step _ _ _ _ (by decide) oE
 obtain⟨a0,_⟩:=qOI.of_at hS (fun k _ l=>oA k l) a1
 rw[←V]at a0 hD
 obtain⟨Z,_⟩:=DkC.of_at hD (fun k _ l=>oB k l) a3
 rw[←G]at Z
 have sB (j:Nat):qB0 j A B z2 z3:=by rw[V];exact qB0.paint k4
 have sC (j:Nat):qB0 j B N z3 z4:=by rw[G];exact qB0.paint k5
 have sD (j:Nat):qB0 j N J z4 z5:=by rw[q];exact qB0.paint k6
 have sE (j:Nat):qB0 j J I z5 z6:=by rw[f];exact qB0.paint k7
 have sF (j:Nat):qB0 j I Y z6 z7:=by rw[F];exact qB0.paint k8
 have a6:qD1 z2 w.heap.size Pw.new:=Blk.kept (Blk.kept (Blk.kept p1 k2) k3) kz
 have O:qD1 z7 w.heap.size Pw.new:=Blk.kept (Blk.kept (Blk.kept (Blk.kept (Blk.kept a6 k4) k5) k6) k7) k8
 have a2:=(((sC 1).trans (sD 1)).trans (sE 1)).trans (sF 1)
 have a5:=((sD 2).trans (sE 2)).trans (sF 2)
 have a7:=hl.frame ((((((qB0.kept kz 5).trans (sB 5)).trans (sC 5)).trans (sD 5)).trans (sE 5)).trans (sF 5))
 have cP:Y w.heap.size=6:=by
  have h1:qAi (fun _:Nat=>0) 6 w w1 w.heap.size=6:=qAk qle (by omega)
  have h2:A w.heap.size=6:=by rw[hA,qAd (by omega)];exact h1
  have h3:B w.heap.size=6:=by rw[V,qAd (by omega)];exact h2
  have h4:N w.heap.size=6:=by rw[G,qAd (by omega)];exact h3
  have h5:J w.heap.size=6:=by rw[q,qAd (by omega)];exact h4
  have h6:I w.heap.size=6:=by rw[f,qAd (by omega)];exact h5
  rw[F,qAd (by omega)];exact h6
 have lC:=Blk.lt hC
 obtain⟨cur,hg⟩:=hK.blkg
 have lK:=hK.blk.lt
 have lg:=hg.lt
 have cC:J z4.heap.size=3:=by rw[q];exact qAk qle lC
 have cK:I (z5.heap.size+1)=4:=by rw[f];exact qAk (by omega) lK
 have cg:I z5.heap.size=4:=by rw[f];exact qAk qle lg
 obtain⟨bC,dC⟩:=((sE 3).trans (sF 3)).blk hC cC
 have a4:qM5 Y z7 (z5.heap.size+1) w.heap.size seed [1#32]:=qM5.frame ⟨_,_,hK,cK,cg⟩ (sF 4)
 refine⟨Y,⟨hW,by rw[F];exact qAk qle hW.lt,O,cP,fun k _ l=>oF k l,?_,?_,bC,dC,a4,a7,by rw[F];exact e8.top⟩,?_⟩
 · have:=a0.frame a2 O
   exact this
 · have:=Z.frame a5 O
   exact this
 · rw[←V]at e4
   rw[←G]at e5
   rw[←q]at e6
   rw[←f]at e7
   rw[←F]at e8
   exact((((((((e1.trans e2).trans e3).trans ez).trans e4).trans e5).trans e6).trans e7).trans e8)
theorem qOf (n:Nat)(hsl:qD9 (n:Int)=true)(seed:BitVec 64)(ideal:Bool)(w:World) :
 Calls prog 23 #[.int .i64 (n:Int),U seed,.bool ideal] w fun e w'=>∃P col',e= .returned (.tuple #[.pointer (some ⟨P.W,0,none⟩),.int .i64 0])∧qAW col' w' P (Wd.new n seed ideal)∧Ext 7 (fun _=>0) col' w w':=by
 have CI:=qEe (n:Int) w
 rw[hsl]at CI
 have J:0<gSize n∧gSize n≤60000:=by
  have:=qAo hsl
  unfold gSize;omega
 replace J:=qh J
 have a2:=qh hsl
 go_enter func23,ntmps23
 go_wp2_with fail
 refine CI.mono ?_
 rintro e w0 ⟨rfl,rfl⟩
 go_wp2_with fail
 refine(qMX w).mono ?_
 rintro e w1 ⟨rfl,p1,k1,n1⟩
 go_wp2_with fail
 have k2:qA4 w1 (w1.alloc (.cells #[.int .i64 (n:Int)] 59)):=qal _
 have bG:=Blk.new w1 #[.int .i64 (n:Int)] 59
 rw[n1]at bG
 replace n1:=qh n1
 generalize (w1.alloc (.cells #[.int .i64 (n:Int)] 59))=w2 at *
 cases ideal with
 | false =>
  refine(qIZ w2).mono ?_
  rintro e w3 ⟨L,f3,f4,rfl,hL,k3,a5⟩
  have hl:LkC (qAi (qAi (fun _=>0) 6 w w1) 5 w2 w3) w3 L .real:=⟨f3,f4,hL,qAk a5 hL.lt⟩
  have a4:=k1.size
  have G:=k2.size
  have Y:=k3.size
  have a3:w.heap.size<w3.heap.size:=Nat.lt_of_lt_of_le (Blk.lt p1) (Nat.le_trans G Y)
  obtain⟨CL,l⟩:∃c,c=qAi (qAi (fun _=>0) 6 w w1) 5 w2 w3:=⟨_,rfl⟩
  have a1:CL w.heap.size=6:=by
   rw[l,qAd (Nat.lt_of_lt_of_le (Blk.lt p1) G)]
   exact qAk qle (Blk.lt p1)
  have a0:∀z,qA4 w3 z→qD1 z w.heap.size Pw.new:=fun z hz=>Blk.kept (Blk.kept (Blk.kept p1 k2) k3) hz
  replace bG:=bG.kept k3
  rw[←l]at hl
  replace l:=qh l
  clear a4 G Y
  go_wp2_with fail
  refine qA3 [(0,0),(1,0),(2,0),(4,0),(6,0),(8,0),(10,0),(11,0),(13,0),(3,1),(5,1),(7,1),(9,1),(12,1),(14,0),(15,1),(16,0),(17,0)] (by kernel_rfl) (by kernel_rfl) ?_
  intro z1 h
  repeat
   refine qA0 _ rfl (fun K f=>?_)
   first
    | (refine qqP (by rfl) ?_;apply Exists.intro;refine⟨fun w' F=>?_,f _ ?_⟩;(have q:=bG.kept (h.of F);have q0:=Blk.cell q 0;clear q;go_simp;first|done|rfl))
    | refine qqN (by rfl) (f _ ?_)
   clear f K;simp only[Act.put,qqB]
  refine qqH _ rfl (by rfl) (fun K f=>?_)
  go_wp2_with fail
  refine(qIV n a2.out z1).mono ?_
  rintro e z2 ⟨rfl,j⟩
  go_wp2
  refine f _ _ (j) ?_
  clear f K
  try simp only[Act.put,qqB]
  refine qqH _ rfl (by rfl) (fun K f=>?_)
  go_wp2_with fail
  refine(qNi (gSize n) J.out.1 (by have:=J.out.2;omega) w.heap.size Pw.new (But CL z2 1) z2 (fun k hk=>hk.1) (fun hn=>hn.2 (.inr a1)) (a0 _ (h.of j))).mono ?_
  rintro e z3 ⟨S,rfl,hS,I⟩
  go_wp2
  refine f _ _ (I) ?_
  clear f K
  try simp only[Act.put,qqB]
  refine qqH _ rfl (by rfl) (fun K f=>?_)
  go_wp2_with fail
  refine(qL8 w.heap.size Pw.new (But (qAi CL 1 z2 z3) z3 2) z3 (fun k hk=>hk.1) (fun hn=>hn.2 (.inr (by rw[qAd (Nat.lt_of_lt_of_le a3 (h.of j).size)];exact a1))) (a0 _ ((h.of j).of I))).mono ?_
  rintro e z4 ⟨Dd,rfl,hD,Z⟩
  go_wp2
  refine f _ _ (Z) ?_
  clear f K
  try simp only[Act.put,qqB]
  refine qqH _ rfl (by rfl) (fun K f=>?_)
  go_wp2_with fail
  refine(qIN w.heap.size z4).mono ?_
  rintro e z5 ⟨rfl,hC,N,-⟩
  go_wp2
  refine f _ _ (N) ?_
  clear f K
  try simp only[Act.put,qqB]
  refine qqH _ rfl (by rfl) (fun K f=>?_)
  go_wp2_with fail
  refine(qL5 seed w.heap.size z5).mono ?_
  rintro e z6 ⟨rfl,a6,V,-⟩
  go_wp2
  refine f _ _ (V) ?_
  clear f K
  try simp only[Act.put,qqB]
  repeat
   refine qA0 _ rfl (fun K f=>?_)
   first
    | (refine qqP (by rfl) ?_;apply Exists.intro;refine⟨fun w' F=>?_,f _ ?_⟩;go_simp;first|done|rfl)
    | refine qqN (by rfl) (f _ ?_)
   clear f K;simp only[Act.put,qqB]
  refine qqH _ rfl (by rfl) (fun K f=>?_)
  go_wp2
  refine f _ _ (qal _) ?_
  clear f K
  try simp only[Act.put,qqB]
  repeat
   refine qA0 _ rfl (fun K f=>?_)
   first
    | (refine qqP (by rfl) ?_;apply Exists.intro;refine⟨fun w' F=>?_,f _ ?_⟩;go_simp;first|done|rfl)
    | refine qqN (by rfl) (f _ ?_)
   clear f K;simp only[Act.put,qqB]
  refine qA6 ?_
  go_wp2_with fail
  rw[l.out]at hS hl hD
  obtain⟨col',hX,eX⟩:=qHs (n:=n) (seed:=seed) (lk:=.real) (L:=L) rfl rfl p1 k1 n1.out k2 k3 hl (h.of j) hS I hD Z hC N a6 V (Blk.new z6 _ _) (qal _)
  refine bodyPost_ret (v:=.tuple #[.pointer (some ⟨z6.heap.size,0,none⟩),.int .i64 0]) (by simp[results,results23,go_sem];done) rfl ⟨⟨z6.heap.size,w.heap.size,S,Dd,z4.heap.size,z5.heap.size+1,L⟩,col',rfl,hX,eX⟩
 | true =>
  refine(qIZ w2).mono ?_
  rintro e v3 ⟨L0,f3,f4,rfl,_,a7,_⟩
  go_wp2_with fail
  refine(qM8 v3).mono ?_
  rintro e w3 ⟨L,O,m,f3,f4,rfl,hL,hO,hM,k3,a5,a8,a9⟩
  replace k2:=k2.of a7
  replace bG:=bG.kept a7
  have hl:LkC (qAi (qAi (fun _=>0) 6 w w1) 5 v3 w3) w3 L (.ideal [] []):=⟨O,f3,f4,hL,qAk a5 hL.lt,.slice none 0 0,[],m,hO,qEf.nil _,hM,qAk a8 hO.lt,qAk a9 (by obtain⟨D0,h1,_⟩:=hM;exact h1.lt),⟨fun g hg=>(by cases hg),fun r hr=>(by cases hr)⟩⟩
  have a4:=k1.size
  have G:=k2.size
  have Y:=k3.size
  have a3:w.heap.size<w3.heap.size:=Nat.lt_of_lt_of_le (Blk.lt p1) (Nat.le_trans G Y)
  obtain⟨CL,l⟩:∃c,c=qAi (qAi (fun _=>0) 6 w w1) 5 v3 w3:=⟨_,rfl⟩
  have a1:CL w.heap.size=6:=by
   rw[l,qAd (Nat.lt_of_lt_of_le (Blk.lt p1) G)]
   exact qAk qle (Blk.lt p1)
  have a0:∀z,qA4 w3 z→qD1 z w.heap.size Pw.new:=fun z hz=>Blk.kept (Blk.kept (Blk.kept p1 k2) k3) hz
  replace bG:=bG.kept k3
  rw[←l]at hl
  replace l:=qh l
  clear a4 G Y
  go_wp2_with fail
  refine qA3 [(0,0),(1,0),(2,0),(4,0),(6,0),(8,0),(10,0),(11,0),(13,0),(3,1),(5,1),(7,1),(9,1),(12,1),(14,0),(15,1),(16,0),(17,0)] (by kernel_rfl) (by kernel_rfl) ?_
  intro z1 h
  repeat
   refine qA0 _ rfl (fun K f=>?_)
   first
    | (refine qqP (by rfl) ?_;apply Exists.intro;refine⟨fun w' F=>?_,f _ ?_⟩;(have q:=bG.kept (h.of F);have q0:=Blk.cell q 0;clear q;go_simp;first|done|rfl))
    | refine qqN (by rfl) (f _ ?_)
   clear f K;simp only[Act.put,qqB]
  refine qqH _ rfl (by rfl) (fun K f=>?_)
  go_wp2_with fail
  refine(qIV n a2.out z1).mono ?_
  rintro e z2 ⟨rfl,j⟩
  go_wp2
  refine f _ _ (j) ?_
  clear f K
  try simp only[Act.put,qqB]
  refine qqH _ rfl (by rfl) (fun K f=>?_)
  go_wp2_with fail
  refine(qNi (gSize n) J.out.1 (by have:=J.out.2;omega) w.heap.size Pw.new (But CL z2 1) z2 (fun k hk=>hk.1) (fun hn=>hn.2 (.inr a1)) (a0 _ (h.of j))).mono ?_
  rintro e z3 ⟨S,rfl,hS,I⟩
  go_wp2
  refine f _ _ (I) ?_
  clear f K
  try simp only[Act.put,qqB]
  refine qqH _ rfl (by rfl) (fun K f=>?_)
  go_wp2_with fail
  refine(qL8 w.heap.size Pw.new (But (qAi CL 1 z2 z3) z3 2) z3 (fun k hk=>hk.1) (fun hn=>hn.2 (.inr (by rw[qAd (Nat.lt_of_lt_of_le a3 (h.of j).size)];exact a1))) (a0 _ ((h.of j).of I))).mono ?_
  rintro e z4 ⟨Dd,rfl,hD,Z⟩
  go_wp2
  refine f _ _ (Z) ?_
  clear f K
  try simp only[Act.put,qqB]
  refine qqH _ rfl (by rfl) (fun K f=>?_)
  go_wp2_with fail
  refine(qIN w.heap.size z4).mono ?_
  rintro e z5 ⟨rfl,hC,N,-⟩
  go_wp2
  refine f _ _ (N) ?_
  clear f K
  try simp only[Act.put,qqB]
  refine qqH _ rfl (by rfl) (fun K f=>?_)
  go_wp2_with fail
  refine(qL5 seed w.heap.size z5).mono ?_
  rintro e z6 ⟨rfl,a6,V,-⟩
  go_wp2
  refine f _ _ (V) ?_
  clear f K
  try simp only[Act.put,qqB]
  repeat
   refine qA0 _ rfl (fun K f=>?_)
   first
    | (refine qqP (by rfl) ?_;apply Exists.intro;refine⟨fun w' F=>?_,f _ ?_⟩;go_simp;first|done|rfl)
    | refine qqN (by rfl) (f _ ?_)
   clear f K;simp only[Act.put,qqB]
  refine qqH _ rfl (by rfl) (fun K f=>?_)
  go_wp2
  refine f _ _ (qal _) ?_
  clear f K
  try simp only[Act.put,qqB]
  repeat
   refine qA0 _ rfl (fun K f=>?_)
   first
    | (refine qqP (by rfl) ?_;apply Exists.intro;refine⟨fun w' F=>?_,f _ ?_⟩;go_simp;first|done|rfl)
    | refine qqN (by rfl) (f _ ?_)
   clear f K;simp only[Act.put,qqB]
  refine qA6 ?_
  go_wp2_with fail
  rw[l.out]at hS hl hD
  obtain⟨col',hX,eX⟩:=qHs (n:=n) (seed:=seed) (lk:=(.ideal [] [])) (L:=L) rfl rfl p1 k1 n1.out k2 k3 hl (h.of j) hS I hD Z hC N a6 V (Blk.new z6 _ _) (qal _)
  refine bodyPost_ret (v:=.tuple #[.pointer (some ⟨z6.heap.size,0,none⟩),.int .i64 0]) (by simp[results,results23,go_sem];done) rfl ⟨⟨z6.heap.size,w.heap.size,S,Dd,z4.heap.size,z5.heap.size+1,L⟩,col',rfl,hX,eX⟩
theorem Ext.sl0c {m n:Nat}{col col':Nat→Nat}{w w':World}{u:Value}{cs:List Value}(e:Ext m col col' w w')(h:Sl w u n cs)(h0:∀a c,u= .slice (some a) n c→0<cs.length→col a.block=0):Sl w' u n cs∧∀a c,u= .slice (some a) n c→0<cs.length→col' a.block=0:=by
 rcases h with h1|⟨a,cap,rfl,k1,k2,k3⟩
 · refine⟨.inl h1,fun a c f=>?_⟩
   rw[h1.1]at f;cases f
 · have F:∀j v,cs[j]? = some v→w'.cell? (a.add j)=some v:=fun j v l=>by
    have hl:0<cs.length:=by
     have:=(List.getElem?_eq_some_iff.1 l).1
     omega
    have:=h0 a cap rfl hl
    refine e.cell0 (k3 j v l) ?_
    rw[show(a.add j).block=a.block by unfold Addr.add;split<;>rfl]
    exact this
   refine⟨.inr ⟨a,cap,rfl,k1,k2,F⟩,fun G I f hl=>?_⟩
   cases f
   have q:=k3 0 _ (List.getElem?_eq_getElem hl)
   rw[Addr.add_zero']at q
   rw[e.old _ (World.block_lt_of_cell? w _ q)]
   exact h0 a _ rfl hl
def Wd.crash (x:Wd)(ks:List Bool):Wd:=(((x.sCrash ks).dCrash ks).setP ((x.sCrash ks).dCrash ks).p.back)
theorem Wd.fine.crash {x:Wd}{m:Nat}(f:x.fine m)(ks:List Bool):(x.crash ks).fine (m+3):=by
 have c:=(f.sCrash ks).dCrash ks
 refine c.setP ?_
 obtain⟨j,l,q⟩:=c.ok.s.pw
 refine⟨j,?_,fun h=>by cases h⟩
 show((x.sCrash ks).dCrash ks).p.steps≤_
 have:((x.sCrash ks).dCrash ks).p.steps≤((m+1+1:Nat):Int):=l
 omega
theorem qPT {col:Nat→Nat}{w:World}{P:qAU}{x:Wd}{m:Nat}(h:qAW col w P x)(f:x.fine m)(hm:m≤90000)(v:Value)(ks:List Bool)(kl:ks.length≤100000)(hks:Sl w v ks.length (qBe ks))(hu:∀a c,v= .slice (some a) ks.length c→0<(qBe ks).length→col a.block=0) :
 Calls prog 52 #[.pointer (some ⟨P.W,0,none⟩),v] w fun e w'=>e= .returned (.tuple #[])∧qHd 6 col w P (x.crash ks) w':=by
 have Z:=h.blk.cell 2
 have CS:=qNs h f.ok (by omega) v ks kl hks hu
 go_enter func52,ntmps52
 go_wp2_with fail
 refine CS.mono ?_
 rintro e w1 ⟨rfl,I,l,J⟩
 have q3:=l.blk.cell 3
 have N:(x.sCrash ks).fine (m+1):=f.sCrash ks
 have G:=J.sl0c hks hu
 have V:=qNu l N.ok (by omega) v ks kl G.1 G.2
 clear Z
 go_wp2_with fail
 refine V.mono ?_
 rintro e w2 ⟨rfl,q,F,O⟩
 have q1:=F.blk.cell 1
 clear q3
 go_wp2_with fail
 refine(qPk F).mono ?_
 rintro e w3 ⟨rfl,j,h3,Y⟩
 go_wp2_with fail
 refine bodyPost_end (results_none rfl _ _ _) rfl ⟨rfl,j,h3,(J.trans O).trans Y⟩
end Go.Proofs.YtdlgihbpiakebaaGreat
