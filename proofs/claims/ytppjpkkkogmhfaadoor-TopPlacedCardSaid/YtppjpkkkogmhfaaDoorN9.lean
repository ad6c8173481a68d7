/- This text proves a part of emendtop.TopPlaced: a told change fits the document. Its conditions stand ahead of each theorem. -/
import Derived.Test.YtppjpkkkogmhfaaDoorN8
namespace Go.Proofs.YtppjpkkkogmhfaaDoor
open Go.RowKit Go.Shelf

theorem own_below {w w' : World} {B e sz : Nat} {v : Value} {n : Nat} {xs : List Value} (h : w.ownsRow B e sz v n xs) (hb : Below w.heap.size w w') : w'.ownsRow B e sz v n xs := by
  refine h.kept (grown_of_below hb) ?_
  cases hv : v.ownBlock with
  | none => exact .inl rfl
  | some k => exact .inr (by simp)

theorem own_far {w w' : World} {B e sz : Nat} {v : Value} {n : Nat} {xs : List Value} {k : Nat} (h : w.ownsRow B e sz v n xs) (hg : w.grownBy w' (some k)) (hk : ∀ j, v.ownBlock = some j → j ≠ k) : w'.ownsRow B e sz v n xs := by
  refine h.kept hg ?_
  cases hv : v.ownBlock with
  | none => exact .inl rfl
  | some j => exact .inr (by simpa using hk j hv)

theorem fits_chgOf (R : List Int) (x : Ty) (hR : ∀ c ∈ R, InA c) (hbe : 0 ≤ x.be ∧ x.be < 256) : FitsC R (chgOf R x) := by
  have ha1 := Int.emod_nonneg x.frm (show (R.length : Int) + 1 ≠ 0 by omega)
  have ha2 := Int.emod_lt_of_pos x.frm (show (0 : Int) < (R.length : Int) + 1 by omega)
  have hb1 := Int.emod_nonneg x.til (show (R.length : Int) - x.frm % ((R.length : Int) + 1) + 1 ≠ 0 by omega)
  have hb2 := Int.emod_lt_of_pos x.til (show (0 : Int) < (R.length : Int) - x.frm % ((R.length : Int) + 1) + 1 by omega)
  unfold chgOf
  by_cases hw : x.whole = true
  · rw [if_pos hw]
    refine ⟨picks_in _, by simp only [List.length_map, List.length_take]; omega, fun h => by cases h⟩
  · rw [if_neg hw]
    refine ⟨picks_in _, by simp only [List.length_map, List.length_take]; omega, fun _ => ?_⟩
    generalize x.frm % ((R.length : Int) + 1) = a at ha1 ha2 hb1 hb2 ⊢
    generalize x.til % ((R.length : Int) - a + 1) = b at hb1 hb2 ⊢
    have h1 := told_off R hR x.be hbe a.toNat (by omega)
    have h2 := told_off R hR x.be hbe (a + b).toNat (by omega)
    exact ⟨by show a.toNat ≤ (a + b).toNat; omega, by show (a + b).toNat ≤ R.length; omega, h1.1, h1.2.1, h2.1, h2.2.1, h1.2.2, h2.2.2⟩

/-- what the round finds behind the change that is told, for the rest of the round -/
theorem mid_on {w0 wr W W' : World} {B d m i bc : Nat} {vn : Int} {tv sv : Value} {R : List Int} (h : Mid w0 wr B d m i vn tv sv R) (hdm : d < B ∧ m < B ∧ w0.heap.size ≤ m) (hb : Below wr.heap.size wr W) (hbc : wr.heap.size ≤ bc) (hg : W.grownBy W' (some bc)) :
    Below w0.heap.size w0 W' ∧ B ≤ W'.heap.size ∧ ∃ (R0 : List Int) (chs : List Chg) (born clk : Nat), DocsAt W' d m (oneE (runesBytes R0) vn born) clk ∧ (∀ c ∈ R0, InA c) ∧ R0.length ≤ 40 + 10 * i ∧ chs.length ≤ i ∧ FitsAll R0 chs ∧ chs.foldl stepC R0 = R ∧ W'.ownsRow B 39 6 sv chs.length (chs.flatMap chgCells) := by
  have hs1 := hb.size
  have hs2 := hg.size
  have hs3 := h.base
  have hs4 := h.below.size
  obtain ⟨R0, chs, born, clk, h1, h2, h3, h4, h5, h6, h7⟩ := h.docs
  have hW := h.below.trans (hb.mono hs4)
  refine ⟨hW.grown hg (by omega) (fun k e => by cases e; omega), by omega, R0, chs, born, clk, ?_, h2, h3, h4, h5, h6, ?_⟩
  · refine (h1.below hb).grown hg ?_ ?_
    · intro e; cases e; omega
    · intro e; cases e; omega
  · refine own_far (own_below h7 hb) hg (fun j hj e => ?_)
    have := (h7.lt j hj).2
    omega

end Go.Proofs.YtppjpkkkogmhfaaDoor
