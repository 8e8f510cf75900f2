/- Part PM1 of the proof: contracts of functions of the program, each walked once. -/
import Derived.Test.YtnmkmfancgcaeaaGreatDoorPD5
import Derived.Test.YtnmkmfancgcaeaaGreatDoorPA2
import Derived.WalkKit
set_option linter.all false
namespace Go.Gv
open Go.Av Go.Proofs Go.RowKit
set_option maxRecDepth 100000
set_option maxHeartbeats 4000000
def GdW (w:World):Prop:=∀x∈glb,x < w.heap.size/\glbP x w.heap[x]?
theorem GdW.keeps {w w':World} {O:List Nat} (h:GdW w) (hk:Keeps O w w') (hO:∀x∈glb,x∉O):GdW w':=fun x hx=>⟨Nat.lt_of_lt_of_le (h x hx).1 hk.size,by rw[hk.block x (h x hx).1 (hO x hx)];exact (h x hx).2⟩
theorem FB0 {P:Program} {f:FuncId} {args:List AV} {R:AV->List (Option (List A))->Prop} (h:ACl P f args [] R) (w:World) (hg:GdW w) (vals:Array Value) (hv:RpS (Env.zero (fun b=>b∈glb) (fun b=>b∈glb) [] w) args vals.toList []) :
  Calls P f vals w fun e w'=>∃v,e=.returned v/\Keeps [] w w'/\∃res S' bl' o1 bx',R res bx'/\RepV (Env.zero S' S' bl' w') res v o1:=by
 refine (h w vals (fun b=>b∈glb) (fun b=>b∈glb) [] [] [] hv ⟨rfl,rfl⟩ (by simp) (fun _ h=>h) (fun b hb=>⟨(hg b hb).1,by simp⟩) (fun b hb=>⟨hb,(hg b hb).2⟩)).mono ?_
 rintro e w' ⟨v,rfl,res,bx',S',bl',o1,o2,hR,hv,_,_,_,_,_,hk,_,_⟩;exact ⟨v,rfl,hk,res,S',bl',o1,bx',hR,hv⟩
end Go.Gv
