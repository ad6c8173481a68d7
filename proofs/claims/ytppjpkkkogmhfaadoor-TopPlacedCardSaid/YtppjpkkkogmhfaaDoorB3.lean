/- This text proves a part of emendtop.TopPlaced: the two bytes of a range: function 27, over texts of the alphabet. Its conditions stand ahead of each theorem. -/
import Derived.Test.YtppjpkkkogmhfaaDoorB2
namespace Go.Proofs.YtppjpkkkogmhfaaDoor
open Go.RowKit Go.Shelf

theorem ret_iii {k j m : IntKind} {a b c d x y : Int} (h : a = c) (h2 : b = d) (h3 : x = y) : Ending.returned (.tuple #[.int k a, .int j b, .int m x]) = .returned (.tuple #[.int k c, .int j d, .int m y]) := by rw [h, h2, h3]

set_option maxRecDepth 100000 in
set_option maxHeartbeats 2000000 in
theorem cut_any (s : ByteArray) (R : List Int) (l c l2 c2 : Int) (hl : 0 ≤ l) (hc : 0 ≤ c) (hl2 : 0 ≤ l2) (hc2 : 0 ≤ c2) (hs : s.data.toList = bs R) (hR : ∀ c ∈ R, InA c) (hRl : R.length < 1000000) (hsz : s.size < 4294967281)
    (hle : offOf s R l c ≤ offOf s R l2 c2) (w : World) :
    Calls Tryd.prog 27 #[.string s, .agg #[.int .i64 l, .int .i64 c, .int .i64 l2, .int .i64 c2]] w fun e W' => e = .returned (.tuple #[.int .i64 (offOf s R l c), .int .i64 (offOf s R l2 c2), .int .i64 0]) ∧ Below w.heap.size w W' := by
  have cO1 := offset_any s R l c hl hc hs hR hRl hsz
  have cO2 := offset_any s R l2 c2 hl2 hc2 hs hR hRl hsz
  generalize offOf s R l c = f1 at cO1 hle ⊢
  generalize offOf s R l2 c2 = f2 at cO2 hle ⊢
  have H1 := Lib.hid cO1
  have H2 := Lib.hid cO2
  clear cO1 cO2 hs hR
  have hu35 := Tryd.underlying35
  have hu37 := Tryd.underlying37
  have hd : decide (f2 < f1) = false := decide_eq_false (by omega)
  go_enter Tryd.func27, Tryd.ntmps27
  go_wp2_with fail
  refine (H1.out _).mono ?_
  rintro e w1 ⟨rfl, hb1⟩
  have hs1 := hb1.size
  simp only [World.size_alloc] at hs1
  obtain ⟨hc1, hf1⟩ : (∀ o, w1.cell? ⟨w.heap.size, o, none⟩ = (w.alloc (.cells #[.int .i64 l, .int .i64 c, .int .i64 l2, .int .i64 c2] 37)).cell? ⟨w.heap.size, o, none⟩) ∧ True := ⟨fun o => hb1.cell (p := ⟨w.heap.size, o, none⟩) (by simp), trivial⟩
  go_wp2_with fail
  refine (H2.out _).mono ?_
  rintro e w2 ⟨rfl, hb2⟩
  go_wp2
  go_ret3
  exact ⟨ret_iii rfl rfl rfl, (((Below.refl _ _).alloc (Nat.le_refl _) _).trans (hb1.mono (by simp))).trans (hb2.mono (by omega))⟩

end Go.Proofs.YtppjpkkkogmhfaaDoor
