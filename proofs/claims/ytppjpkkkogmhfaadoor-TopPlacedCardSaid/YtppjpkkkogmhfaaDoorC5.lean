/- This text proves a part of emendtop.TopPlaced: a document is read: function 9, at the one address. Its conditions stand ahead of each theorem. -/
import Derived.Test.YtppjpkkkogmhfaaDoorC4
namespace Go.Proofs.YtppjpkkkogmhfaaDoor
open Go.RowKit Go.Shelf

set_option maxRecDepth 1000000 in
set_option maxHeartbeats 4000000 in
theorem get_any (d m clk born : Nat) (text : ByteArray) (ver : Int) (w : World) (h : DocsAt w d m (oneE text ver born) clk) :
    Calls Tryd.prog 9 #[.pointer (some ⟨d, 0, none⟩), .string ⟨#[102, 105, 108, 101, 58, 47, 47, 47, 112, 47, 97, 46, 103, 111]⟩] w fun e w' =>
      e = .returned (.tuple #[docV text ver, .bool true]) ∧ Below w.heap.size w w' := by
  have hu55 := Tryd.underlying55
  have hu53 := Tryd.underlying53
  have hu45 := Tryd.underlying45
  have hb0 : Below w.heap.size w (w.alloc (.cells #[.string ByteArray.empty, .string ByteArray.empty, .int .i64 0] 45)) := (Below.refl _ _).alloc (Nat.le_refl _) _
  have h1 := h.below hb0
  have hc1 := h.cell
  have hdl := World.block_lt_of_cell? _ _ hc1
  simp only at hdl
  have hlk := look_hit (k := uri) h1.map
  have H1 := Lib.hid h1
  clear h h1 hb0
  go_enter Tryd.func9, Tryd.ntmps9
  go_wp2_with (first
    | (go_at_call 13; refine (is_any _ d m _ _ H1.out).mono ?_; rintro e w' ⟨rfl, hw⟩; subst hw))
  refine bodyPost_ret (v := .tuple #[docV text ver, .bool true]) ?_ rfl ⟨rfl, ?_⟩
  · simp [results, Tryd.results9, go_sem]
  · exact ((Below.refl _ _).alloc (Nat.le_refl _) _).alloc (by simp) _

end Go.Proofs.YtppjpkkkogmhfaaDoor
