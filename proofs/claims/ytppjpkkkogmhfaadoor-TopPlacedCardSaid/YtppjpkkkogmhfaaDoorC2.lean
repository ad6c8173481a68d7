/- This text proves a part of emendtop.TopPlaced: the folder of the one address: function 14. Its conditions stand ahead of each theorem. -/
import Derived.Test.YtppjpkkkogmhfaaDoorC1
namespace Go.Proofs.YtppjpkkkogmhfaaDoor
open Go.RowKit Go.Shelf

set_option maxRecDepth 1000000 in
set_option maxHeartbeats 2000000 in
theorem scut_c (w : World) : Calls Tryd.prog 33 #[.string ⟨#[112, 47, 97, 46, 103, 111]⟩, .string ⟨#[47]⟩] w fun e w' => e = .returned (.tuple #[.string ⟨#[112]⟩, .string ⟨#[97, 46, 103, 111]⟩, .bool true]) ∧ Below w.heap.size w w' := by
  go_enter Tryd.func33, Tryd.ntmps33
  go_wp2_with fail
  refine (Tryd.stringslite_Index_one ⟨#[112, 47, 97, 46, 103, 111]⟩ 47 w).mono ?_
  rintro e w' ⟨rfl, rfl⟩
  rw [show Lib.indexByte (ByteArray.mk #[112, 47, 97, 46, 103, 111]).data.toList 47 = 1 from by decide]
  go_wp2
  go_quiet (fail)
  go_wp2
  go_ret3
  exact ⟨rfl, bDrewN (Below.refl _ _) _⟩

set_option maxRecDepth 1000000 in
set_option maxHeartbeats 2000000 in
theorem cut_c (w : World) : Calls Tryd.prog 22 #[.string ⟨#[112, 47, 97, 46, 103, 111]⟩, .string ⟨#[47]⟩] w fun e w' => e = .returned (.tuple #[.string ⟨#[112]⟩, .string ⟨#[97, 46, 103, 111]⟩, .bool true]) ∧ Below w.heap.size w w' := by
  go_enter Tryd.func22, Tryd.ntmps22
  go_wp2_with (go_at_call 33; refine (scut_c _).mono ?_; rintro e w' ⟨rfl, hb⟩)
  go_ret3
  exact ⟨rfl, hb⟩

theorem cutPrefix_c (w : World) : Calls Tryd.prog 21 #[.string ⟨#[102, 105, 108, 101, 58, 47, 47, 47, 112, 47, 97, 46, 103, 111]⟩, .string ⟨#[102, 105, 108, 101, 58, 47, 47, 47]⟩] w fun e w' => e = .returned (.tuple #[.string ⟨#[112, 47, 97, 46, 103, 111]⟩, .bool true]) ∧ w = w' :=
  (Tryd.strings_CutPrefix _ _ w).mono fun e w' ⟨he, hw⟩ => ⟨by rw [he]; rfl, hw.symm⟩

theorem cutSuffix_c (w : World) : Calls Tryd.prog 23 #[.string ⟨#[97, 46, 103, 111]⟩, .string ⟨#[46, 103, 111]⟩] w fun e w' => e = .returned (.tuple #[.string ⟨#[97]⟩, .bool true]) ∧ w = w' :=
  (Tryd.strings_CutSuffix _ _ w (by decide)).mono fun e w' ⟨he, hw⟩ => ⟨by rw [he]; rfl, hw.symm⟩

abbrev uri : ByteArray := ⟨#[102, 105, 108, 101, 58, 47, 47, 47, 112, 47, 97, 46, 103, 111]⟩

/-- the tables of the library that the program reads -/
def Tabs (w : World) : Prop := Lib.TabIs Tryd.prog w "strings.asciiSpace" .u8 Lib.asciiSpaceTab ∧ Lib.Utf8Tabs 1 2 w

theorem lt_of_var {w : World} {n : String} {g : Nat} {cs : Array Value} (hg : Tryd.prog.globalNamed n = some g) (h : w.var? Tryd.prog n = some cs) : g < w.heap.size := by
  unfold World.var? at h
  simp only [hg, Option.bind_some] at h
  cases hh : w.heap[g]? with
  | none => rw [hh] at h; cases h
  | some o => exact (Array.getElem?_eq_some_iff.1 hh).1

theorem Tabs.below {w w' : World} (h : Tabs w) (hb : Below w.heap.size w w') : Tabs w' := by
  obtain ⟨h1, h2, h3⟩ := h
  have hg : Tryd.prog.globalNamed "strings.asciiSpace" = some 0 := by kernel_rfl
  refine ⟨var?_below hb hg (lt_of_var hg h1) h1, fun c hc => ?_, fun i hi => ?_⟩
  · have := h2 c hc
    exact (hb.cell (p := ⟨1, c, none⟩) (World.block_lt_of_cell? w _ this)).trans this
  · have := h3 i hi
    exact ⟨(hb.cell (p := ⟨2, _, none⟩) (World.block_lt_of_cell? w _ this.1)).trans this.1, (hb.cell (p := ⟨2, _, none⟩) (World.block_lt_of_cell? w _ this.2)).trans this.2⟩

set_option maxRecDepth 1000000 in
set_option maxHeartbeats 2000000 in
theorem dir_c (w : World) (ht : Tabs w) : Calls Tryd.prog 14 #[.string ⟨#[102, 105, 108, 101, 58, 47, 47, 47, 112, 47, 97, 46, 103, 111]⟩] w fun e w' => e = .returned (.tuple #[.string ⟨#[112]⟩, .bool true]) ∧ Below w.heap.size w w' := by
  have HT := Lib.hid ht
  clear ht
  go_enter Tryd.func14, Tryd.ntmps14
  go_wp2_with (first
    | (go_at_call 21; refine (cutPrefix_c _).mono ?_; rintro e w' ⟨rfl, rfl⟩)
    | (go_at_call 22; refine (cut_c _).mono ?_; rintro e w1 ⟨rfl, hb1⟩)
    | (go_at_call 23; refine (cutSuffix_c _).mono ?_; rintro e w' ⟨rfl, rfl⟩)
    | (go_at_call 25; refine (reserved_p _ (HT.out.below hb1).1).mono ?_; rintro e w2 ⟨rfl, hb2⟩)
    | (go_at_call_of 24 (Value.string ⟨#[112]⟩); refine (name_p _).mono ?_; rintro e w' ⟨rfl, rfl⟩)
    | (go_at_call_of 24 (Value.string ⟨#[97]⟩); refine (name_a _).mono ?_; rintro e w' ⟨rfl, rfl⟩))
  go_ret2
  exact ⟨rfl, hb1.trans (hb2.mono hb1.size)⟩

end Go.Proofs.YtppjpkkkogmhfaaDoor
