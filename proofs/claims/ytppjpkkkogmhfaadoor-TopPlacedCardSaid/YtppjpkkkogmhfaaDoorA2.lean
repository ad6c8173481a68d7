/- This text proves a part of emendtop.TopPlaced: the byte of a place in units: function 18 at every text shorter than 2^47. Its conditions stand ahead of each theorem. -/
import Derived.Test.YtppjpkkkogmhfaaDoorA1
namespace Go.Proofs.YtppjpkkkogmhfaaDoor
open Go.RowKit

theorem ret_int {k : IntKind} {a b : Int} (h : a = b) : Ending.returned (.int k a) = .returned (.int k b) := by rw [h]
theorem units_bd (c : Int) : 1 ≤ units c ∧ units c ≤ 2 := by unfold units; split <;> omega

theorem byteFrom_end (s : ByteArray) (want : Int) (f pos : Nat) (n : Int) (h : ¬ pos < s.size) : byteFrom s want f pos n = s.size := by
  cases f <;> simp [byteFrom, h]

set_option maxHeartbeats 1000000 in
set_option maxRecDepth 1000000 in
theorem utfByte_any (s : ByteArray) (want : Int) (w : World) (hs : s.size ≤ 140737488351232) :
    Calls Tryd.prog 18 #[.string s, .int .i64 want] w fun e w' => e = .returned (.int .i64 (utfByte s want)) ∧ Below w.heap.size w w' := by
  go_enter Tryd.func18, Tryd.ntmps18
  go_wp2
  go_loopw [5] (fun n w' => ∃ (pos b : Nat) (acc : Int), w' = w.iter s pos ∧ n = .int .i64 acc ∧ Hid (byteFrom s want b pos acc = utfByte s want) ∧ s.size ≤ pos + b ∧ 0 ≤ acc ∧ acc ≤ 2 * (pos : Int)) (fun _ w' => s.size - w'.iterPos w.heap.size)
  case atStart => exact ⟨0, s.size, 0, rfl, rfl, by exact Lib.hid rfl, by omega, by omega, by omega⟩
  case round =>
    obtain ⟨pos, b, acc, rfl, rfl, hc, hb, ha, ha2⟩ := hrel
    by_cases hp : pos < s.size
    · have hnx : ∀ ty, (Instr.next (.pointer (some ⟨w.heap.size, 0, none⟩)) true ty).run Tryd.prog (w.iter s pos) = _ := fun ty => run_next_any w s pos ty hp
      have hwd := Lib.decode_width_pos s pos hp
      have hu := units_bd (Utf8.decode s pos).1
      go_wp2_with (go_at_call 28; refine (units_any _ _).mono ?_; rintro e w' ⟨rfl, rfl⟩)
      · go_ret
        rename_i hgt
        cases b with
        | zero => omega
        | succ b =>
          have hc := hc.out
          simp only [byteFrom] at hc
          rw [if_pos hp, if_pos hgt] at hc
          exact ⟨ret_int hc, (Below.refl _ _).alloc (Nat.le_refl _) _⟩
      · rename_i hle
        go_roundw
        case rel =>
          cases b with
          | zero => omega
          | succ b =>
            have hc := hc.out
            simp only [byteFrom] at hc
            rw [if_pos hp, if_neg (by omega)] at hc
            exact ⟨_, b, _, rfl, rfl, Lib.hid hc, by omega, by omega, by omega⟩
        case measure =>
          simp
          omega
    · have hnx : ∀ ty, (Instr.next (.pointer (some ⟨w.heap.size, 0, none⟩)) true ty).run Tryd.prog (w.iter s pos) = _ := fun ty => run_next_end w s pos ty hp
      go_wp2
      go_ret
      have hc := hc.out
      rw [byteFrom_end s want b pos _ hp] at hc
      exact ⟨ret_int hc, (Below.refl _ _).alloc (Nat.le_refl _) _⟩

end Go.Proofs.YtppjpkkkogmhfaaDoor
