/- This text proves a part of emendtop.TopPlaced: the byte of a line and unit: function 10, over texts of the alphabet. Its conditions stand ahead of each theorem. -/
import Derived.Test.YtppjpkkkogmhfaaDoorB1
import Derived.Deep.RegionHeld3
import Derived.Deep.DeepFit
namespace Go.Proofs.YtppjpkkkogmhfaaDoor
open Go.RowKit Go.Shelf

theorem ret_ii {k j : IntKind} {a b c d : Int} (h : a = c) (h2 : b = d) : Ending.returned (.tuple #[.int k a, .int j b]) = .returned (.tuple #[.int k c, .int j d]) := by rw [h, h2]
theorem line_any (s : ByteArray) (R : List Int) (k : Int) (hs : s.data.toList = bs R) (hR : ∀ c ∈ R, InA c) (hRl : R.length < 1000000) (hsz : s.size < 4294967281) (w : World) :
    Calls Tryd.prog 17 #[.string s, .int .i64 k] w fun e W' => e = .returned (.tuple #[.int .i64 (lineOf R k).1, .int .i64 (lineOf R k).2.1, .bool (lineOf R k).2.2]) ∧ Below w.heap.size w W' :=
  callsIn_wide.1 (line_in 3 (Nat.le_refl _) s R k hs hR hRl hsz w)
theorem at_any (s : ByteArray) (R : List Int) (place : Int) (hs : s.data.toList = bs R) (hR : ∀ c ∈ R, InA c) (hRl : R.length < 1000000) (hsz : s.size < 4294967281) (w : World) :
    Calls Tryd.prog 11 #[.string s, .int .i64 place] w fun e W' => e = .returned (.agg #[.int .i64 (atOf s R place).1, .int .i64 (atOf s R place).2]) ∧ Below w.heap.size w W' :=
  callsIn_wide.1 (at_in 3 (Nat.le_refl _) s R place hs hR hRl hsz w)
theorem count_any (s : ByteArray) (R : List Int) (hs : s.data.toList = bs R) (hR : ∀ c ∈ R, InA c) (hRl : R.length < 1000000) (hsz : s.size < 4294967281) (w : World) :
    Calls Tryd.prog 12 #[.string s] w fun e W' => e = .returned (.int .i64 (lns R).length) ∧ Below w.heap.size w W' :=
  callsIn_wide.1 (count_in 3 (Nat.le_refl _) s R hs hR hRl hsz w)

theorem lineOf_bounds (R : List Int) (k : Int) : 0 ≤ (lineOf R k).1 ∧ (lineOf R k).1 ≤ (lineOf R k).2.1 ∧ (lineOf R k).2.1 ≤ ((bs R).length : Int) := by
  unfold lineOf
  by_cases h0 : 0 ≤ k
  · rw [if_pos h0]
    cases hx : (lns R)[k.toNat]? with
    | none => simp
    | some x =>
      have := lnsF_bounds R 0 0 (Nat.le_refl _) x (List.mem_of_getElem? hx)
      simpa using this
  · rw [if_neg h0]
    simp

def offOf (s : ByteArray) (R : List Int) (l c : Int) : Int :=
  if (lineOf R l).2.2 = true then (lineOf R l).1 + utfByte (s.extract (lineOf R l).1.toNat (lineOf R l).2.1.toNat) c else s.size

theorem byteFrom_bounds (s : ByteArray) (want : Int) : ∀ (f pos : Nat) (n : Int), pos ≤ s.size → 0 ≤ byteFrom s want f pos n ∧ byteFrom s want f pos n ≤ s.size
  | 0, pos, n, h => by simp [byteFrom]
  | f + 1, pos, n, h => by
    unfold byteFrom
    by_cases hp : pos < s.size
    · rw [if_pos hp]
      split
      · omega
      · by_cases h2 : pos + (Utf8.decode s pos).2 ≤ s.size
        · exact byteFrom_bounds s want f _ _ h2
        · rw [byteFrom_end _ _ _ _ _ (by omega)]
          omega
    · rw [if_neg hp]
      omega
theorem utfByte_bounds (s : ByteArray) (want : Int) : 0 ≤ utfByte s want ∧ utfByte s want ≤ s.size := byteFrom_bounds s want s.size 0 0 (Nat.zero_le _)

set_option maxRecDepth 100000 in
set_option maxHeartbeats 2000000 in
theorem offset_any (s : ByteArray) (R : List Int) (l c : Int) (hl : 0 ≤ l) (hc : 0 ≤ c) (hs : s.data.toList = bs R) (hR : ∀ c ∈ R, InA c) (hRl : R.length < 1000000) (hsz : s.size < 4294967281) (w : World) :
    Calls Tryd.prog 10 #[.string s, .agg #[.int .i64 l, .int .i64 c]] w fun e W' => e = .returned (.tuple #[.int .i64 (offOf s R l c), .int .i64 0]) ∧ Below w.heap.size w W' := by
  have cL := line_any s R l hs hR hRl hsz
  have hbd := lineOf_bounds R l
  have hsl := size_list s _ hs
  have HOff : Hid (offOf s R l c = if (lineOf R l).2.2 = true then (lineOf R l).1 + utfByte (s.extract (lineOf R l).1.toNat (lineOf R l).2.1.toNat) c else s.size) := Lib.hid rfl
  rw [← hsl] at hbd
  clear hs hR hsl
  generalize lineOf R l = L at cL hbd HOff
  obtain ⟨fa, ta, ok⟩ := L
  simp only at cL hbd HOff
  obtain ⟨h0, h1, h2⟩ := hbd
  have HC := Lib.hid cL
  clear cL
  have hd : decide (l < 0) = false := decide_eq_false (by omega)
  have hd2 : decide (c < 0) = false := decide_eq_false (by omega)
  cases ok with
  | false =>
    go_enter Tryd.func10, Tryd.ntmps10
    go_wp2_with (first | (go_at_call 17; refine (HC.out _).mono ?_; rintro e w1 ⟨rfl, hb1⟩))
    go_ret2
    refine ⟨?_, (Below.refl _ _).alloc (Nat.le_refl _) _ |>.trans (hb1.mono (by simp))⟩
    have := HOff.out
    simp only [Bool.false_eq_true, if_false] at this
    exact ret_ii this.symm rfl
  | true =>
    go_enter Tryd.func10, Tryd.ntmps10
    go_wp2_with (first | (go_at_call 17; refine (HC.out _).mono ?_; rintro e w1 ⟨rfl, hb1⟩))
    obtain ⟨a, rfl⟩ := Int.eq_ofNat_of_zero_le h0
    obtain ⟨b, rfl⟩ := Int.eq_ofNat_of_zero_le (show 0 ≤ ta by omega)
    have hab : a ≤ b := by omega
    have hbs : b ≤ s.size := by omega
    have hoff := HOff.out
    simp only [if_true, Int.toNat_natCast] at hoff
    obtain ⟨u, hu⟩ : ∃ u, utfByte (s.extract a b) c = u := ⟨_, rfl⟩
    have hub := utfByte_bounds (s.extract a b) c
    rw [hu, ByteArray.size_extract] at hub
    rw [hu] at hoff
    have HO := Lib.hid hoff
    have HU := Lib.hid hu
    clear hoff hu HOff
    have hu0 : 0 ≤ u := hub.1
    have hu1 : u ≤ (b : Int) := by have := hub.2; omega
    clear hub
    have q1 : w1.cell? ⟨w.heap.size, 1, none⟩ = some (.int .i64 c) := (hb1.cell (p := ⟨w.heap.size, 1, none⟩) (by simp)).trans (Own2.new w _ _ 35).2.1
    go_region_held3 (fun w' : World => w'.cell? ⟨w.heap.size, 1, none⟩ = some (.int .i64 c)) (first | exact q1 | exact q5 | (simpa using q1)) (first | (go_at_call 18; refine (utfByte_any _ _ _ (by rw [ByteArray.size_extract]; omega)).mono ?_; rintro e w5 ⟨rfl, hb5⟩; rw [HU.out]; have q5 : w5.cell? ⟨w.heap.size, 1, none⟩ = some (.int .i64 c) := (hb5.cell (p := ⟨w.heap.size, 1, none⟩) (World.block_lt_of_cell? _ _ q1)).trans q1))
    go_wp2
    go_ret2
    have hs1 := hb1.size
    simp only [World.size_alloc] at hs1
    exact ⟨ret_ii ((IntWalk.i64_in _ (by omega)).trans HO.out.symm) rfl, (((Below.refl _ _).alloc (Nat.le_refl _) _).trans (hb1.mono (by simp))).drew.trans (hb5.mono (by show w.heap.size ≤ w1.heap.size; omega))⟩

end Go.Proofs.YtppjpkkkogmhfaaDoor
