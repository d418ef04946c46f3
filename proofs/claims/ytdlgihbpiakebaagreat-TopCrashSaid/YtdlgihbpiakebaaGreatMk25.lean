import Derived.Test.YtdlgihbpiakebaaGreatMk05
import Derived.Test.YtdlgihbpiakebaaGreatMk09
import Derived.Test.YtdlgihbpiakebaaGreatMk24
set_option maxRecDepth 100000
set_option maxHeartbeats 4000000
namespace Go.Proofs.YtdlgihbpiakebaaGreat
open Go Go.RowKit Tryz

structure Cn where
 value:BitVec 64
 boots:BitVec 64
 at_:BitVec 64
def Cn.bump (n:Cn):Cn:=⟨n.value+1#64,n.boots,n.boots⟩
def Cn.boot (n:Cn):Cn:=⟨n.value,n.boots+1#64,n.at_⟩
def Cn.zero:Cn:=⟨0#64,0#64,0#64⟩
def qHM (w:World)(c b:Nat)(n:Cn):Prop:=Blk w c #[.pointer (some ⟨b,0,none⟩),U n.value,U n.boots,U n.at_] 92
theorem qHM.cells {w:World}{c b:Nat}{n:Cn}(h:qHM w c b n) :
 w.cell? ⟨c,0,none⟩=some (.pointer (some ⟨b,0,none⟩))∧w.cell? ⟨c,1,none⟩=some (U n.value)∧w.cell? ⟨c,2,none⟩=some (U n.boots)∧w.cell? ⟨c,3,none⟩=some (U n.at_):=
 ⟨Blk.cell h 0,Blk.cell h 1,Blk.cell h 2,Blk.cell h 3⟩
theorem qHM.frees {w:World}{c b:Nat}{n:Cn}(h:qHM w c b n) :
 w.frozen? ⟨c,1,none⟩=false∧w.frozen? ⟨c,2,none⟩=false∧w.frozen? ⟨c,3,none⟩=false:=
 ⟨Blk.free h 1,Blk.free h 2,Blk.free h 3⟩
theorem qIN (b:Nat)(w:World):Calls prog 40 #[.pointer (some ⟨b,0,none⟩)] w fun e w'=>e= .returned (.pointer (some ⟨w.heap.size,0,none⟩))∧qHM w' w.heap.size b Cn.zero∧qA4 w w'∧w'.heap.size=w.heap.size+1:=by
 go_enter func40,ntmps40
 go_wp2
 go_ret
 exact⟨rfl,Blk.new _ _ _,qal _,by simp⟩
theorem qLX (c b:Nat)(p p':Pw)(r:Bool)(n:Cn)(w:World)(h:qHM w c b n)(hp:qD1 w b p)(hne:c≠b)(hok:p.ok 9223372036854775806)(hs:p.spend=(r,p')) :
 Calls prog 177 #[.pointer (some ⟨c,0,none⟩)] w fun e w'=>e= .returned (.bool r)∧qHM w' c b (if r then n.bump else n)∧qD1 w' b p'∧Chg [b,c] w w':=by
 obtain⟨F,G,q,c3⟩:=h.cells
 have I:=qh hs
 have l:=qh hne
 clear hs hne
 cases r
 · go_enter func177,ntmps177
   go_wp2_with fail
   refine(qAK _ _ _ _ _ hp hok I.out).mono ?_
   rintro e w1 ⟨rfl,f,g⟩
   have j:qHM w1 c b n:=qFR g h l.out
   clear F G q c3
   go_wp2
   go_ret
   exact⟨rfl,j,f,(Chg.of_grown g).mono (by simp)⟩
 · go_enter func177,ntmps177
   go_wp2_with fail
   refine(qAK _ _ _ _ _ hp hok I.out).mono ?_
   rintro e w1 ⟨rfl,f,g⟩
   have j:qHM w1 c b n:=qFR g h l.out
   clear F G q c3
   obtain⟨F,G,q,c3⟩:=j.cells
   obtain⟨J,N,O⟩:=j.frees
   go_wp2
   go_ret
   exact⟨rfl,(Blk.set ((Blk.set (j) 1 _)) 3 _),(Blk.other ((Blk.other (f) (a:=⟨c,1,none⟩) l.out.symm _)) (a:=⟨c,3,none⟩) l.out.symm _),Chg.set (Chg.set ((Chg.of_grown g).mono (by simp)) (by simp) 1 _) (by simp) 3 _⟩
theorem qLY (c b:Nat)(p p':Pw)(r:Bool)(n:Cn)(w:World)(h:qHM w c b n)(hp:qD1 w b p)(hne:c≠b)(hok:p.ok 9223372036854775806)(hs:p.spend=(r,p')) :
 Calls prog 43 #[.pointer (some ⟨c,0,none⟩)] w fun e w'=>e= .returned (.bool r)∧qHM w' c b (if r then n.boot else n)∧qD1 w' b p'∧Chg [b,c] w w':=by
 obtain⟨q,G,l,c3⟩:=h.cells
 have I:=qh hs
 have F:=qh hne
 clear hs hne
 cases r
 · go_enter func43,ntmps43
   go_wp2_with fail
   refine(qAK _ _ _ _ _ hp hok I.out).mono ?_
   rintro e w1 ⟨rfl,f,g⟩
   have j:qHM w1 c b n:=qFR g h F.out
   clear q G l c3
   go_wp2
   go_ret
   exact⟨rfl,j,f,(Chg.of_grown g).mono (by simp)⟩
 · go_enter func43,ntmps43
   go_wp2_with fail
   refine(qAK _ _ _ _ _ hp hok I.out).mono ?_
   rintro e w1 ⟨rfl,f,g⟩
   have j:qHM w1 c b n:=qFR g h F.out
   clear q G l c3
   obtain⟨q,G,l,c3⟩:=j.cells
   obtain⟨J,N,O⟩:=j.frees
   go_wp2
   go_ret
   exact⟨rfl,(Blk.set (j) 2 _),(Blk.other (f) (a:=⟨c,2,none⟩) F.out.symm _),Chg.set ((Chg.of_grown g).mono (by simp)) (by simp) 2 _⟩
end Go.Proofs.YtdlgihbpiakebaaGreat
