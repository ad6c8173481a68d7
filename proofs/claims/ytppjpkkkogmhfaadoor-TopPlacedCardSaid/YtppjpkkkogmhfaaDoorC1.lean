/- This text proves a part of emendtop.TopPlaced: names and letters: functions 35, 24 and 25 at the two names met. Its conditions stand ahead of each theorem. -/
import Derived.Test.YtppjpkkkogmhfaaDoorB3
import Derived.Lib.FieldsLaws
namespace Go.Proofs.YtppjpkkkogmhfaaDoor
open Go.RowKit Go.Shelf

set_option maxRecDepth 1000000 in
set_option maxHeartbeats 2000000 in
theorem letter_c (c : Int) (h : c = 112 ∨ c = 97) (w : World) : Calls Tryd.prog 35 #[.int .u8 c] w fun e w' => e = .returned (.bool true) ∧ w = w' := by
  rcases h with rfl | rfl
  · go_enter Tryd.func35, Tryd.ntmps35
    go_wp2
    go_ret
    exact ⟨rfl, rfl⟩
  · go_enter Tryd.func35, Tryd.ntmps35
    go_wp2
    go_ret
    exact ⟨rfl, rfl⟩

set_option maxRecDepth 1000000 in
set_option maxHeartbeats 2000000 in
theorem name_p (w : World) : Calls Tryd.prog 24 #[.string ⟨#[112]⟩] w fun e w' => e = .returned (.bool true) ∧ w = w' := by
  go_enter Tryd.func24, Tryd.ntmps24
  go_wp2
  refine wp_loop_rounds 2 ?_
  rw [rounds_succ]
  go_wp2_with (first | (go_at_call 35; refine (letter_c _ (.inl rfl) _).mono ?_; rintro e w' ⟨rfl, rfl⟩))
  rw [rounds_succ]
  go_wp2
  go_ret
  exact ⟨rfl, rfl⟩

set_option maxRecDepth 1000000 in
set_option maxHeartbeats 2000000 in
theorem name_a (w : World) : Calls Tryd.prog 24 #[.string ⟨#[97]⟩] w fun e w' => e = .returned (.bool true) ∧ w = w' := by
  go_enter Tryd.func24, Tryd.ntmps24
  go_wp2
  refine wp_loop_rounds 2 ?_
  rw [rounds_succ]
  go_wp2_with (first | (go_at_call 35; refine (letter_c _ (.inr rfl) _).mono ?_; rintro e w' ⟨rfl, rfl⟩))
  rw [rounds_succ]
  go_wp2
  go_ret
  exact ⟨rfl, rfl⟩

/-- the words that are reserved, in one line -/
def wordsB : List UInt8 := [98, 111, 111, 108, 32, 98, 114, 101, 97, 107, 32, 99, 111, 110, 116, 105, 110, 117, 101, 32, 101, 108, 115, 101, 32, 102, 97, 108, 115, 101, 32, 102, 108, 111, 97, 116, 54, 52, 32, 102, 111, 114, 32, 102, 117, 110, 99, 32, 105, 102, 32, 105, 109, 112, 111, 114, 116, 32, 105, 110, 116, 32, 108, 101, 110, 32, 112, 97, 99, 107, 97, 103, 101, 32, 112, 97, 110, 105, 99, 32, 112, 114, 105, 110, 116, 32, 114, 101, 116, 117, 114, 110, 32, 115, 116, 114, 105, 110, 103, 32, 115, 116, 114, 117, 99, 116, 32, 116, 114, 117, 101, 32, 116, 121, 112, 101, 32, 118, 97, 114]
theorem words_fields : Lib.fields wordsB = [[98, 111, 111, 108], [98, 114, 101, 97, 107], [99, 111, 110, 116, 105, 110, 117, 101], [101, 108, 115, 101], [102, 97, 108, 115, 101], [102, 108, 111, 97, 116, 54, 52], [102, 111, 114], [102, 117, 110, 99], [105, 102], [105, 109, 112, 111, 114, 116], [105, 110, 116], [108, 101, 110], [112, 97, 99, 107, 97, 103, 101], [112, 97, 110, 105, 99], [112, 114, 105, 110, 116], [114, 101, 116, 117, 114, 110], [115, 116, 114, 105, 110, 103], [115, 116, 114, 117, 99, 116], [116, 114, 117, 101], [116, 121, 112, 101], [118, 97, 114]] := by decide +kernel
theorem words_ascii : ∀ (j : Nat) b, wordsB[j]? = some b → b.toNat < 128 := by
  intro j b hj
  have hm := List.mem_of_getElem? hj
  have : ∀ b ∈ wordsB, b.toNat < 128 := by decide +kernel
  exact this b hm
theorem words_not : Lib.containsS ((Lib.fields wordsB).map fun l => (⟨l.toArray⟩ : ByteArray)) ⟨#[112]⟩ = false := by rw [words_fields]; decide +kernel

def wordsS : List ByteArray := (Lib.fields wordsB).map fun l => (⟨l.toArray⟩ : ByteArray)
theorem wordsS_length : wordsS.length = 21 := by unfold wordsS; rw [words_fields]; rfl
theorem fields_c (w : World) (htab : Lib.TabIs Tryd.prog w "strings.asciiSpace" .u8 Lib.asciiSpaceTab) :
    Calls Tryd.prog 37 #[.string ⟨#[98, 111, 111, 108, 32, 98, 114, 101, 97, 107, 32, 99, 111, 110, 116, 105, 110, 117, 101, 32, 101, 108, 115, 101, 32, 102, 97, 108, 115, 101, 32, 102, 108, 111, 97, 116, 54, 52, 32, 102, 111, 114, 32, 102, 117, 110, 99, 32, 105, 102, 32, 105, 109, 112, 111, 114, 116, 32, 105, 110, 116, 32, 108, 101, 110, 32, 112, 97, 99, 107, 97, 103, 101, 32, 112, 97, 110, 105, 99, 32, 112, 114, 105, 110, 116, 32, 114, 101, 116, 117, 114, 110, 32, 115, 116, 114, 105, 110, 103, 32, 115, 116, 114, 117, 99, 116, 32, 116, 114, 117, 101, 32, 116, 121, 112, 101, 32, 118, 97, 114]⟩] w fun e w' => e = .returned (.slice (some ⟨w.heap.size, 0, none⟩) 21 21) ∧ w' = w.alloc (.cells (wordsS.map Value.string).toArray 9) := by
  refine (Tryd.strings_Fields ⟨#[98, 111, 111, 108, 32, 98, 114, 101, 97, 107, 32, 99, 111, 110, 116, 105, 110, 117, 101, 32, 101, 108, 115, 101, 32, 102, 97, 108, 115, 101, 32, 102, 108, 111, 97, 116, 54, 52, 32, 102, 111, 114, 32, 102, 117, 110, 99, 32, 105, 102, 32, 105, 109, 112, 111, 114, 116, 32, 105, 110, 116, 32, 108, 101, 110, 32, 112, 97, 99, 107, 97, 103, 101, 32, 112, 97, 110, 105, 99, 32, 112, 114, 105, 110, 116, 32, 114, 101, 116, 117, 114, 110, 32, 115, 116, 114, 105, 110, 103, 32, 115, 116, 114, 117, 99, 116, 32, 116, 114, 117, 101, 32, 116, 121, 112, 101, 32, 118, 97, 114]⟩ w (by decide) words_ascii htab).mono ?_
  rintro e w' ⟨he, hw⟩
  have hl : (Lib.fields wordsB).length = 21 := by rw [words_fields]; rfl
  refine ⟨?_, ?_⟩
  · rw [he]
    show Ending.returned (.slice _ (Lib.fields wordsB).length (Lib.fields wordsB).length) = _
    rw [hl]
  · rw [hw]
    show w.alloc (.cells ((Lib.fields wordsB).map fun l => Value.string ⟨l.toArray⟩).toArray 9) = _
    unfold wordsS
    rw [List.map_map]
    rfl

theorem contains_c (w : World) : Calls Tryd.prog 36 #[.slice (some ⟨w.heap.size, 0, none⟩) 21 21, .string ⟨#[112]⟩] (w.alloc (.cells (wordsS.map Value.string).toArray 9)) fun e w' => e = .returned (.bool false) ∧ w.alloc (.cells (wordsS.map Value.string).toArray 9) = w' := by
  refine (Tryd.slices_Contains_string w.heap.size 0 21 21 wordsS ⟨#[112]⟩ _ (by rw [wordsS_length]; decide) (by decide) (fun j hj => ?_)).mono ?_
  · have h := World.alloc_heap_new w (.cells (wordsS.map Value.string).toArray 9)
    simp only [World.cell?, h]
    simp [List.getD, hj]
  · rintro e w' ⟨he, hw⟩
    refine ⟨?_, hw.symm⟩
    rw [he]
    have : wordsS.take 21 = wordsS := List.take_of_length_le (by rw [wordsS_length]; decide)
    rw [this]
    exact congrArg (fun b => Ending.returned (.bool b)) words_not

set_option maxRecDepth 1000000 in
set_option maxHeartbeats 2000000 in
theorem reserved_p (w : World) (htab : Lib.TabIs Tryd.prog w "strings.asciiSpace" .u8 Lib.asciiSpaceTab) : Calls Tryd.prog 25 #[.string ⟨#[112]⟩] w fun e w' => e = .returned (.bool false) ∧ Below w.heap.size w w' := by
  have HT := Lib.hid htab
  clear htab
  go_enter Tryd.func25, Tryd.ntmps25
  go_wp2_with fail
  refine (fields_c w HT.out).mono ?_
  rintro e w' ⟨rfl, rfl⟩
  go_wp2_with fail
  refine (contains_c w).mono ?_
  rintro e w' ⟨rfl, rfl⟩
  go_wp2
  go_ret
  exact ⟨rfl, (Below.refl _ _).alloc (Nat.le_refl _) _⟩

end Go.Proofs.YtppjpkkkogmhfaaDoor
