/- This text proves a part of emendtop.TopPlaced: the search of a rune of the alphabet among the line ends: function 39. Its conditions stand ahead of each theorem. -/
import Derived.Test.YtppjpkkkogmhfaaDoorA3
import Derived.Test.YtppjpkkkogmhfaaDoorShelf
import Derived.Test.YtppjpkkkogmhfaaDoorL1
import Derived.WalkSmall
namespace Go.Proofs.YtppjpkkkogmhfaaDoor
open Go.RowKit

theorem bDrewN {B : Nat} {a w : World} (h : Below B a w) (n : Nat) : Below B a (w.drewN n) := h.trans ⟨rfl, rfl, rfl, Nat.le_refl _, fun _ _ => rfl⟩
theorem quiet_add_same {P : Program} {f : FuncId} {args : Array Value} {w : World} {a n : Nat} {v : Value}
    (h : Calls P f args (w.drewN (a + n)) fun e w' => e = .returned v ∧ w' = w.drewN (a + n)) :
    Calls P f args (w.drewN (a + n)) fun e w'' => e = .returned v ∧ ∃ m, w'' = w.drewN (a + m) :=
  h.mono fun _ _ ⟨he, hm⟩ => ⟨he, n, hm⟩

set_option maxHeartbeats 1000000 in
set_option maxRecDepth 1000000 in
theorem ir8364 (w : World) : Calls Tryd.prog 39 #[.string ⟨#[13, 10]⟩, .int .i32 8364] w fun e w' => e = .returned (.int .i64 (-1)) ∧ Below w.heap.size w w' := by
  have he : Utf8.encode 8364 = ⟨#[226, 130, 172]⟩ := by decide +kernel
  go_enter Tryd.func39, Tryd.ntmps39
  go_wp2_with (first | (go_at_call 51; refine (Tryd.utf8_ValidRune _ _).mono ?_; rintro e w' ⟨rfl, rfl⟩; rw [show Lib.validRune 8364 = true from by decide]))
  go_step3
  go_wp2
  refine wp_loop_rounds 1 ?_
  rw [rounds_succ]
  go_wp2
  try rw [Exit.noGoto_ret]
  go_ret
  exact ⟨rfl, Below.refl _ _⟩

set_option maxHeartbeats 1000000 in
set_option maxRecDepth 1000000 in
theorem ir128512 (w : World) : Calls Tryd.prog 39 #[.string ⟨#[13, 10]⟩, .int .i32 128512] w fun e w' => e = .returned (.int .i64 (-1)) ∧ Below w.heap.size w w' := by
  have he : Utf8.encode 128512 = ⟨#[240, 159, 152, 128]⟩ := by decide +kernel
  go_enter Tryd.func39, Tryd.ntmps39
  go_wp2_with (first | (go_at_call 51; refine (Tryd.utf8_ValidRune _ _).mono ?_; rintro e w' ⟨rfl, rfl⟩; rw [show Lib.validRune 128512 = true from by decide]))
  go_step3
  go_wp2
  refine wp_loop_rounds 1 ?_
  rw [rounds_succ]
  go_wp2
  try rw [Exit.noGoto_ret]
  go_ret
  exact ⟨rfl, Below.refl _ _⟩

set_option maxHeartbeats 1000000 in
set_option maxRecDepth 1000000 in
theorem ir233 (w : World) : Calls Tryd.prog 39 #[.string ⟨#[13, 10]⟩, .int .i32 233] w fun e w' => e = .returned (.int .i64 (-1)) ∧ Below w.heap.size w w' := by
  have he : Utf8.encode 233 = ⟨#[195, 169]⟩ := by decide +kernel
  go_enter Tryd.func39, Tryd.ntmps39
  go_wp2_with (first | (go_at_call 51; refine (Tryd.utf8_ValidRune _ _).mono ?_; rintro e w' ⟨rfl, rfl⟩; rw [show Lib.validRune 233 = true from by decide]))
  go_step3
  go_wp2
  refine wp_loop_rounds 1 ?_
  rw [rounds_succ]
  go_wp2
  go_step3
  go_wp2
  go_quiet (fail)
  go_wp2
  go_quiet ((go_at_call 50; exact quiet_add_same (Tryd.strings_IndexByte _ _ _)))
  go_wp2
  rw [Exit.noGoto_ret]
  go_wp2
  rw [Exit.noGoto_ret]
  go_ret
  exact ⟨rfl, bDrewN (Below.refl _ _) _⟩

set_option maxRecDepth 1000000 in
theorem ir_low (c : Int) (h : c = 97 ∨ c = 98) (w : World) : Calls Tryd.prog 39 #[.string ⟨#[13, 10]⟩, .int .i32 c] w fun e w' => e = .returned (.int .i64 (-1)) ∧ Below w.heap.size w w' := by
  rcases h with rfl | rfl
  · go_enter Tryd.func39, Tryd.ntmps39
    go_wp2_with (go_at_call 50; refine (Tryd.strings_IndexByte _ _ _).mono ?_; rintro e w' ⟨rfl, rfl⟩)
    go_ret
    exact ⟨ret_int (by decide), Below.refl _ _⟩
  · go_enter Tryd.func39, Tryd.ntmps39
    go_wp2_with (go_at_call 50; refine (Tryd.strings_IndexByte _ _ _).mono ?_; rintro e w' ⟨rfl, rfl⟩)
    go_ret
    exact ⟨ret_int (by decide), Below.refl _ _⟩

set_option maxRecDepth 1000000 in
theorem ir_10 (w : World) : Calls Tryd.prog 39 #[.string ⟨#[13, 10]⟩, .int .i32 10] w fun e w' => e = .returned (.int .i64 1) ∧ Below w.heap.size w w' := by
  go_enter Tryd.func39, Tryd.ntmps39
  go_wp2_with (go_at_call 50; refine (Tryd.strings_IndexByte _ _ _).mono ?_; rintro e w' ⟨rfl, rfl⟩)
  go_ret
  exact ⟨ret_int (by decide), Below.refl _ _⟩

theorem ir_any (c : Int) (h : InA c) (w : World) : Calls Tryd.prog 39 #[.string ⟨#[13, 10]⟩, .int .i32 c] w fun e w' => e = .returned (.int .i64 (if c = 10 then 1 else -1)) ∧ Below w.heap.size w w' := by
  rcases h with rfl | rfl | rfl | rfl | rfl | rfl
  · exact ir_low _ (.inl rfl) w
  · exact ir_low _ (.inr rfl) w
  · exact ir233 w
  · exact ir128512 w
  · exact ir_10 w
  · exact ir8364 w

end Go.Proofs.YtppjpkkkogmhfaaDoor
