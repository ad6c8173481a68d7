/- This text proves a part of emendtop.TopPlaced: the search of any line end in a short text. Its conditions stand ahead of each theorem. -/
import Derived.Test.YtppjpkkkogmhfaaDoorA4
import Derived.Lib.OthersKept
namespace Go.Proofs.YtppjpkkkogmhfaaDoor
open Go.RowKit

theorem shouldUse (n : Int) (w : World) :
    Calls Tryd.prog 40 #[.int .i64 n] w fun e w' => e = .returned (.bool (decide (8 < n))) ∧ w = w' := by
  go_enter Tryd.func40, Tryd.ntmps40
  go_wp2
  go_ret
  exact ⟨rfl, rfl⟩

/-- what is left of a text from a place on, in runes -/
theorem split_at (R : List Int) (k : Nat) (h : k < R.length) : R = R.take k ++ R[k] :: R.drop (k + 1) := by
  conv => lhs; rw [← List.take_append_drop k R]
  rw [List.drop_eq_getElem_cons h]

theorem InA.nonneg {c : Int} (h : InA c) : 0 ≤ c := by
  rcases h with rfl | rfl | rfl | rfl | rfl | rfl <;> decide

theorem ir_hit (c : Int) (h : InA c) (h10 : c = 10) (w : World) : Calls Tryd.prog 39 #[.string ⟨#[13, 10]⟩, .int .i32 c] w fun e w' => e = .returned (.int .i64 1) ∧ Below w.heap.size w w' :=
  (ir_any c h w).mono fun e w' ⟨he, hw⟩ => ⟨by rw [he, if_pos h10], hw⟩
theorem ir_miss (c : Int) (h : InA c) (h10 : c ≠ 10) (w : World) : Calls Tryd.prog 39 #[.string ⟨#[13, 10]⟩, .int .i32 c] w fun e w' => e = .returned (.int .i64 (-1)) ∧ Below w.heap.size w w' :=
  (ir_any c h w).mono fun e w' ⟨he, hw⟩ => ⟨by rw [he, if_neg h10], hw⟩

theorem take_succ_at (R : List Int) (k : Nat) (h : k < R.length) : R.take (k + 1) = R.take k ++ [R[k]] := by
  rw [List.take_succ_eq_append_getElem h]

theorem bs_take_succ (R : List Int) (k : Nat) (h : k < R.length) : (bs (R.take (k + 1))).length = (bs (R.take k)).length + (bl R[k]).length := by
  rw [take_succ_at R k h, bs_append, List.length_append]
  simp [bs]

theorem bs_take_le (R : List Int) (k : Nat) : (bs (R.take k)).length ≤ (bs R).length := by
  conv => rhs; rw [← List.take_append_drop k R, bs_append, List.length_append]
  omega

theorem bs_take_lt (R : List Int) (hR : ∀ c ∈ R, InA c) (k : Nat) (h : k < R.length) : (bs (R.take k)).length < (bs R).length := by
  have h1 := bs_take_le R (k + 1)
  have h2 := bs_take_succ R k h
  have h3 := bl_length R[k] (hR _ (List.getElem_mem h))
  omega

set_option maxHeartbeats 1000000 in
set_option maxRecDepth 1000000 in
theorem indexAny_short (s : ByteArray) (R : List Int) (hs : s.data.toList = bs R) (hR : ∀ c ∈ R, InA c) (h8 : s.size ≤ 8) (w : World) :
    Calls Tryd.prog 30 #[.string s, .string ⟨#[13, 10]⟩] w fun e w' => e = .returned (.int .i64 (Lib.indexAny (bs R) [13, 10])) ∧ Below w.heap.size w w' := by
  have HS := Lib.hid hs
  have HR := Lib.hid hR
  clear hs hR
  go_enter Tryd.func30, Tryd.ntmps30
  go_wp2_with (go_at_call 40; refine (shouldUse _ _).mono ?_; rintro e w' ⟨rfl, rfl⟩; rw [show decide (8 < (s.size : Int)) = false from by simp; omega])
  go_loopw [9, 10] (fun _ _ w' => ∃ k pos : Nat, w'.heap[w.heap.size]? = some (.stringIter s pos) ∧ Hid (pos = (bs (R.take k)).length) ∧ k ≤ R.length ∧ Hid (∀ c ∈ R.take k, c ≠ 10) ∧ Below w.heap.size w w' ∧ w.heap.size < w'.heap.size) (fun _ _ w' => s.size - w'.iterPos w.heap.size)
  case atStart => exact ⟨0, 0, World.iter_heap _ _ _, by exact Lib.hid rfl, by omega, by exact Lib.hid (by simp), (Below.refl _ _).alloc (Nat.le_refl _) _, by simp [World.iter]⟩
  case round =>
    obtain ⟨k, pos, hit, hpos, hk, hno, hB, hlt⟩ := hrel
    by_cases hlt2 : k < R.length
    · obtain ⟨c, hc⟩ : ∃ c, R[k] = c := ⟨_, rfl⟩
      have hcA : InA c := by rw [← hc]; exact HR.out _ (List.getElem_mem hlt2)
      have hps : pos < s.size := by
        rw [size_list s _ HS.out, hpos.out]
        exact bs_take_lt R HR.out k hlt2
      have hdec : Utf8.decode s pos = (c.toNat, (bl c).length) := by
        rw [hpos.out]
        exact decode_runes s R (R.take k) (R.drop (k + 1)) c HS.out hcA (by rw [← hc]; exact split_at R k hlt2)
      have hnx : ∀ ty, (Instr.next (.pointer (some ⟨w.heap.size, 0, none⟩)) true ty).run Tryd.prog wr = .ok (.tuple #[.bool true, .int .i64 pos, .int .i32 c]) (wr.iterAt w.heap.size s (pos + (bl c).length)) := by
        intro ty
        rw [Lib.run_next_any_at wr w.heap.size s pos ty hit hps, hdec]
        simp only [Int.toNat_of_nonneg hcA.nonneg]
      have hlen := bl_length c hcA
      have hit2 := Lib.iterAt_heap wr w.heap.size s pos (pos + (bl c).length) hit
      have hB2 := Lib.below_iterAt hB (Nat.le_refl _) s (pos + (bl c).length)
      have hsz2 := Lib.iterAt_size wr w.heap.size s (pos + (bl c).length)
      have hpos' : pos + (bl c).length = (bs (R.take (k + 1))).length := by rw [bs_take_succ R k hlt2, hc, hpos.out]
      have Hpos' := Lib.hid hpos'
      have Hc := Lib.hid hc
      have Hdec := Lib.hid hdec
      have Hsz2 := Lib.hid hsz2
      have Hit2 := Lib.hid hit2
      have Hit := Lib.hid hit
      clear hpos' hc hdec hsz2 hit2 hit
      by_cases h10 : c = 10
      · have H10 := Lib.hid h10
        clear h10
        go_wp2_with (go_at_call 39; refine (ir_hit c hcA H10.out _).mono ?_; rintro e w1 ⟨rfl, hw1⟩)
        go_ret
        refine ⟨ret_int ?_, hB2.trans (hw1.mono (by rw [Hsz2.out]; omega))⟩
        have hs : R = R.take k ++ 10 :: R.drop (k + 1) := by
          have := split_at R k hlt2
          rwa [Hc.out, H10.out] at this
        rw [hpos.out]
        conv => rhs; rw [hs]
        rw [indexAny_hit10 (R.take k) _ (fun x hx => HR.out x (List.mem_of_mem_take hx)) hno.out]
      · have H10 := Lib.hid h10
        clear h10
        go_wp2_with (go_at_call 39; refine (ir_miss c hcA H10.out _).mono ?_; rintro e w1 ⟨rfl, hw1⟩)
        have hw2 : w1.heap[w.heap.size]? = some (.stringIter s (pos + (bl c).length)) := by
          rw [hw1.block w.heap.size (by rw [Hsz2.out]; exact hlt)]
          exact Hit2.out
        go_roundw
        case rel =>
          refine ⟨k + 1, pos + (bl c).length, hw2, Hpos', hlt2, ?_, hB2.trans (hw1.mono (by rw [Hsz2.out]; omega)), ?_⟩
          · refine Lib.hid ?_
            intro x hx
            rw [take_succ_at R k hlt2, List.mem_append] at hx
            rcases hx with hx | hx
            · exact hno.out x hx
            · rw [List.mem_singleton, Hc.out] at hx
              rw [hx]
              exact H10.out
          · have := hw1.size
            rw [Hsz2.out] at this
            omega
        case measure =>
          simp only [World.iterPos, Hit.out, hw2]
          omega
    · have hkR : k = R.length := by omega
      have hpe : ¬ pos < s.size := by
        rw [size_list s _ HS.out, hpos.out, hkR, List.take_length]
        omega
      have hno' := hno.out
      rw [hkR, List.take_length] at hno'
      have HNo := Lib.hid hno'
      clear hno' hkR
      have hnx : ∀ ty, (Instr.next (.pointer (some ⟨w.heap.size, 0, none⟩)) true ty).run Tryd.prog wr = _ := fun ty => Lib.run_next_end_at wr w.heap.size s pos ty hit hpe
      go_wp2
      go_ret
      exact ⟨ret_int (indexAny_none10 R HR.out HNo.out).symm, hB⟩

end Go.Proofs.YtppjpkkkogmhfaaDoor
