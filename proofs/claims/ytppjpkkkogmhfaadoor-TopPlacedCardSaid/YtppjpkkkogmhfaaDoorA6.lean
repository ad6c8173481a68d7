/- This text proves a part of emendtop.TopPlaced: the search of any line end in a text of the alphabet: function 30. Its conditions stand ahead of each theorem. -/
import Derived.Test.YtppjpkkkogmhfaaDoorA5
namespace Go.Proofs.YtppjpkkkogmhfaaDoor
open Go.RowKit

theorem info85 : (Tryd.prog.info? 85).map (fun i => (i.zero, i.size)) = some (some (.agg (Array.replicate 256 (.bool false))), 256) := by kernel_rfl
theorem zero85 (w : World) : (zeroValue 85).run Tryd.prog w = .ok (.agg (Array.replicate 256 (.bool false))) w :=
  (zero_of_info info85).1 w

theorem indexAny_R (s : ByteArray) (R : List Int) (hs : s.data.toList = bs R) (hR : ∀ c ∈ R, InA c) (hb : s.size < 4294967281) (w : World) :
    Calls Tryd.prog 30 #[.string s, .string ⟨#[13, 10]⟩] w fun e w' => e = .returned (.int .i64 (Lib.indexAny (bs R) [13, 10])) ∧ Below w.heap.size w w' := by
  by_cases h8 : s.size ≤ 8
  · exact indexAny_short s R hs hR h8 w
  · refine (Tryd.strings_IndexAny_long zero85 s ⟨#[13, 10]⟩ w (by decide) (by omega) hb (by decide) (by
      intro j b hj
      have := List.mem_of_getElem? hj
      simp at this
      rcases this with rfl | rfl <;> decide)).mono ?_
    rintro e w' ⟨he, rfl⟩
    rw [hs] at he
    exact ⟨he, ((Below.refl _ _).alloc (Nat.le_refl _) _).alloc (by simp) _⟩

end Go.Proofs.YtppjpkkkogmhfaaDoor
