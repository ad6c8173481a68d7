/- This text proves a part of emendtop.TopPlaced: the units of a rune: function 28 at every rune. Its conditions stand ahead of each theorem. -/
import Derived.Test.YtppjpkkkogmhfaaDoorProg
import Derived.Below
import Derived.Deep.Draws
import Derived.Deep.AppendLies
import Derived.Maps.AppendAt
import Derived.OwnWalk
import Derived.Laws.BytesArg
import Derived.Laws.MakeOwn
import Derived.Laws.OwnMore
import Derived.Deep.OwnRows
import Derived.Tactics
import Derived.Lib.ConvBytes
import Derived.Laws.Slices
import Derived.WalkKit
import Derived.KernelRfl
import Derived.RowKit3
import Derived.Deep.LoopGhost
import Derived.Deep.QuietTactic
import Derived.BigQuiet
import Derived.WideLaws
import Derived.Deep.DeepCutAuto
import Derived.Deep.CutBlock
import Derived.Deep.RegionHeld3
import Derived.Laws.Rows
import Derived.Lib.AppendStr
import Derived.ArgAppend
import Derived.Laws.IdiomCopy
import Derived.OrdersHeld
import Derived.Laws.BitsLemmas
import Derived.RowKit
import Derived.ChangeSlices
import Derived.Laws.StructEq
import Derived.SizedLaws
import Derived.WalkLawsBesides
import Derived.WalkSpells
import Derived.Lib.Walk
import Derived.Lib.RuneCount
import Derived.Lib.Hide
import Derived.Laws.RangeString
import Derived.Laws.RangeAny
import Derived.LoopTactic
namespace Go.Proofs.YtppjpkkkogmhfaaDoor
open Go.RowKit

/-- units of a rune -/
def units (c : Int) : Int := if c > 65535 then 2 else 1

def byteFrom (s : ByteArray) (want : Int) : Nat → Nat → Int → Int
  | 0, _, _ => s.size
  | f + 1, pos, n =>
    if pos < s.size then
      if n + units (Utf8.decode s pos).1 > want then pos
      else byteFrom s want f (pos + (Utf8.decode s pos).2) (n + units (Utf8.decode s pos).1)
    else s.size
def utfByte (s : ByteArray) (want : Int) : Int := byteFrom s want s.size 0 0

theorem units_any (c : Int) (w : World) : Calls Tryd.prog 28 #[.int .i32 c] w fun e w' => e = .returned (.int .i64 (units c)) ∧ w = w' := by
  by_cases h : c > 65535
  · go_enter Tryd.func28, Tryd.ntmps28
    go_wp2
    go_ret
    exact ⟨by simp [units, h], rfl⟩
  · go_enter Tryd.func28, Tryd.ntmps28
    go_wp2
    go_ret
    exact ⟨by simp [units, h], rfl⟩

end Go.Proofs.YtppjpkkkogmhfaaDoor
