/- This text proves a part of emendtop.TopPlaced: the units ahead of a byte: function 20 at every text shorter than 2^47. Its conditions stand ahead of each theorem. -/
import Derived.Test.YtppjpkkkogmhfaaDoorA2
namespace Go.Proofs.YtppjpkkkogmhfaaDoor
open Go.RowKit

def uaFrom (s : ByteArray) (place : Int) : Nat → Nat → Int → Int → Int
  | 0, _, n, last => if place < s.size then n - last else n
  | f + 1, pos, n, last =>
    if pos < s.size then
      if (pos : Int) > place then n - last
      else if (pos : Int) = place then n
      else uaFrom s place f (pos + (Utf8.decode s pos).2) (n + units (Utf8.decode s pos).1) (units (Utf8.decode s pos).1)
    else if place < s.size then n - last else n
def utfUnitsAt (s : ByteArray) (place : Int) : Int := uaFrom s place s.size 0 0 0

theorem uaFrom_end (s : ByteArray) (place : Int) (f pos : Nat) (n last : Int) (h : ¬ pos < s.size) : uaFrom s place f pos n last = if place < s.size then n - last else n := by
  cases f <;> simp [uaFrom, h]

set_option maxHeartbeats 1000000 in
set_option maxRecDepth 1000000 in
theorem utfUnitsAt_any (s : ByteArray) (place : Int) (w : World) (hs : s.size ≤ 140737488351232) :
    Calls Tryd.prog 20 #[.string s, .int .i64 place] w fun e w' => e = .returned (.int .i64 (utfUnitsAt s place)) ∧ Below w.heap.size w w' := by
  go_enter Tryd.func20, Tryd.ntmps20
  go_wp2
  go_loopw [4, 5] (fun n la w' => ∃ (pos b : Nat) (acc last : Int), w' = w.iter s pos ∧ n = .int .i64 acc ∧ la = .int .i64 last ∧ Hid (uaFrom s place b pos acc last = utfUnitsAt s place) ∧ s.size ≤ pos + b ∧ 0 ≤ acc ∧ acc + 2 * (b : Int) ≤ 2 * (s.size : Int) ∧ 0 ≤ last ∧ last ≤ 2) (fun _ _ w' => s.size - w'.iterPos w.heap.size)
  case atStart => exact ⟨0, s.size, 0, 0, rfl, rfl, rfl, by exact Lib.hid rfl, by omega, by omega, by omega, by omega, by omega⟩
  case round =>
    obtain ⟨pos, b, acc, last, rfl, rfl, rfl, hc, hb, ha, ha2, hl, hl2⟩ := hrel
    by_cases hp : pos < s.size
    · have hnx : ∀ ty, (Instr.next (.pointer (some ⟨w.heap.size, 0, none⟩)) true ty).run Tryd.prog (w.iter s pos) = _ := fun ty => run_next_any w s pos ty hp
      have hwd := Lib.decode_width_pos s pos hp
      have hu := units_bd (Utf8.decode s pos).1
      go_wp2_with (go_at_call 28; refine (units_any _ _).mono ?_; rintro e w' ⟨rfl, rfl⟩)
      · go_ret
        rename_i hgt
        cases b with
        | zero => omega
        | succ b =>
          have hc := hc.out
          simp only [uaFrom] at hc
          rw [if_pos hp, if_pos hgt] at hc
          exact ⟨ret_int hc, (Below.refl _ _).alloc (Nat.le_refl _) _⟩
      · go_ret
        rename_i hle heq
        have heq' : (pos : Int) = place := by simpa using heq
        cases b with
        | zero => omega
        | succ b =>
          have hc := hc.out
          simp only [uaFrom] at hc
          rw [if_pos hp, if_neg (by omega), if_pos heq'] at hc
          exact ⟨ret_int hc, (Below.refl _ _).alloc (Nat.le_refl _) _⟩
      · rename_i hle hne
        have hne' : ¬ (pos : Int) = place := by simpa using hne
        go_roundw
        case rel =>
          cases b with
          | zero => omega
          | succ b =>
            have hc := hc.out
            simp only [uaFrom] at hc
            rw [if_pos hp, if_neg (by omega), if_neg hne'] at hc
            exact ⟨_, b, _, _, rfl, rfl, rfl, Lib.hid hc, by omega, by omega, by omega, by omega, by omega⟩
        case measure =>
          simp
          omega
    · have hnx : ∀ ty, (Instr.next (.pointer (some ⟨w.heap.size, 0, none⟩)) true ty).run Tryd.prog (w.iter s pos) = _ := fun ty => run_next_end w s pos ty hp
      have hc := hc.out
      rw [uaFrom_end s place b pos _ _ hp] at hc
      by_cases hat : place < s.size
      · rw [if_pos hat] at hc
        have Hc := Lib.hid hc
        clear hc
        go_wp2
        go_ret
        exact ⟨ret_int Hc.out, (Below.refl _ _).alloc (Nat.le_refl _) _⟩
      · rw [if_neg hat] at hc
        have Hc := Lib.hid hc
        clear hc
        go_wp2
        go_ret
        exact ⟨ret_int Hc.out, (Below.refl _ _).alloc (Nat.le_refl _) _⟩

end Go.Proofs.YtppjpkkkogmhfaaDoor
