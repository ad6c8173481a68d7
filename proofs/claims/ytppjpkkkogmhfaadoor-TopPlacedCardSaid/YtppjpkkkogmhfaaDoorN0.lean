/- This text proves a part of emendtop.TopPlaced: a statement is cut out of function 3's body. Its conditions stand ahead of each theorem. -/
import Derived.Test.YtppjpkkkogmhfaaDoorM1
import Derived.Deep.DeepCutAuto
import Derived.Deep.LoopGhost
import Derived.Deep.Cut
import Derived.Deep.CutBlock
namespace Go.Proofs.YtppjpkkkogmhfaaDoor
open Go.RowKit Go.Shelf

def isCond (n : Nat) : Code → Bool
  | .cond (.tmp k) _ _ => k == n
  | _ => false
def isSeqReg (n : Nat) : Code → Bool
  | .seq (.region k _ _) _ => k == n
  | .seq (.seq (.region k _ _) _) _ => k == n
  | .seq (.seq (.seq (.region k _ _) _) _) _ => k == n
  | _ => false

def findC (p : Code → Bool) : Code → Option Code
  | .seq a b => if p (.seq a b) then some (.seq a b) else match findC p a with
    | some c => some c
    | none => findC p b
  | .cond o a b => if p (.cond o a b) then some (.cond o a b) else match findC p a with
    | some c => some c
    | none => findC p b
  | .block n a => if p (.block n a) then some (.block n a) else findC p a
  | .loop a => if p (.loop a) then some (.loop a) else findC p a
  | .scope a => if p (.scope a) then some (.scope a) else findC p a
  | c => if p c then some c else none

noncomputable def S81 : Code := (Tryd.f3.body.bind (findC (isCond 81))).getD .skip
noncomputable def S30 : Code := (Tryd.f3.body.bind (findC (isSeqReg 30))).getD .skip
noncomputable def S39 : Code := (Tryd.f3.body.bind (findC (isSeqReg 39))).getD .skip

theorem blkSet {w : World} {g : Nat} {t : TypeId} {cs : Array Value} (h : w.heap[g]? = some (.cells cs t (0, 0))) (i : Nat) (u : Value) : (w.setCell ⟨g, i, none⟩ u).heap[g]? = some (.cells (cs.setIfInBounds i u) t (0, 0)) := by
  simp [World.setCell, Array.getElem?_modify, h]

theorem cellOf {w : World} {g : Nat} {t : TypeId} {cs : Array Value} {fz : Nat × Nat} (h : w.heap[g]? = some (.cells cs t fz)) (i : Nat) : w.cell? ⟨g, i, none⟩ = cs[i]? := by
  simp [World.cell?, h]

theorem freeOf {w : World} {g : Nat} {t : TypeId} {cs : Array Value} (h : w.heap[g]? = some (.cells cs t (0, 0))) (i : Nat) : w.frozen? ⟨g, i, none⟩ = false := by
  simp [World.frozen?, h]

end Go.Proofs.YtppjpkkkogmhfaaDoor
