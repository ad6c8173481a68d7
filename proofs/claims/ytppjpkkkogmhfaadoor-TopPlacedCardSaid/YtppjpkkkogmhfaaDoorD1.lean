/- This text proves a part of emendtop.TopPlaced: where one stands in a row of runes: function 7, over rows of at most 100000 runes of the alphabet. Its conditions stand ahead of each theorem. -/
import Derived.Test.YtppjpkkkogmhfaaDoorC8
import Derived.Deep.LoopGhost
namespace Go.Proofs.YtppjpkkkogmhfaaDoor
open Go.RowKit Go.Shelf

/-- a slice of runes, as it is read -/
def RunesAt (w : World) (v : Value) (R : List Int) : Prop :=
  ∃ (A : Option Addr) (cap : Nat), v = .slice A R.length cap ∧ R.length ≤ cap ∧ (A = none → cap = 0) ∧ ∀ j (h : j < R.length), ∃ b o, A = some ⟨b, o, none⟩ ∧ w.cell? ⟨b, o + j, none⟩ = some (.int .i32 R[j]) ∧ ∃ cs fz, w.heap[b]? = some (.cells cs 21 fz)

theorem RunesAt.below {w w' : World} {v : Value} {R : List Int} (h : RunesAt w v R) (hb : Below w.heap.size w w') : RunesAt w' v R := by
  obtain ⟨A, cap, rfl, hc, hn, hj⟩ := h
  refine ⟨A, cap, rfl, hc, hn, fun j h => ?_⟩
  obtain ⟨b, o, hA, hcell, cs, fz, hbl⟩ := hj j h
  exact ⟨b, o, hA, (hb.cell (p := ⟨b, o + j, none⟩) (World.block_lt_of_cell? w _ hcell)).trans hcell, cs, fz, (hb.block b (World.block_lt_of_cell? w _ hcell)).trans hbl⟩

theorem run_hi {w : World} {A : Option Addr} {n cap k : Nat} (h : k ≤ cap) :
    (Instr.slice 25 (.slice A n cap) none (some (.int .i64 k)) none).run Tryd.prog w = .ok (.slice A k cap) w := by
  have e : A.map (fun x : Addr => x.add 0) = A := by cases A <;> simp [Addr.add]
  simp [Instr.slice, Instr.sliceBounds, Instr.sliceBound, asIntOf, run_underlying Tryd.underlying25, Sem.run, Tryd.sizeOf21, h, e]

theorem run_lo {w : World} {A : Option Addr} {n cap k : Nat} (h : k ≤ n) :
    (Instr.slice 25 (.slice A n cap) (some (.int .i64 k)) none none).run Tryd.prog w = .ok (.slice (if cap = k then A else A.map (·.add k)) (n - k) (cap - k)) w := by
  simp [Instr.slice, Instr.sliceBounds, Instr.sliceBound, asIntOf, run_underlying Tryd.underlying25, Sem.run, Tryd.sizeOf21, h]

theorem RunesAt.hi {w : World} {v : Value} {R : List Int} (h : RunesAt w v R) (k : Nat) (hk : k ≤ R.length) :
    ∃ v', RunesAt w v' (R.take k) ∧ ∀ W : World, (Instr.slice 25 v none (some (.int .i64 k)) none).run Tryd.prog W = .ok v' W := by
  obtain ⟨A, cap, rfl, hc, hn, hj⟩ := h
  refine ⟨.slice A k cap, ⟨A, cap, by rw [List.length_take, Nat.min_eq_left hk], by rw [List.length_take]; omega, hn, fun j h => ?_⟩, fun W => run_hi (by omega)⟩
  rw [List.length_take] at h
  obtain ⟨b, o, hA, hcell, hbl⟩ := hj j (by omega)
  exact ⟨b, o, hA, by rw [hcell, List.getElem_take], hbl⟩

theorem RunesAt.lo {w : World} {v : Value} {R : List Int} (h : RunesAt w v R) (k : Nat) (hk : k ≤ R.length) :
    ∃ v', RunesAt w v' (R.drop k) ∧ ∀ W : World, (Instr.slice 25 v (some (.int .i64 k)) none none).run Tryd.prog W = .ok v' W := by
  obtain ⟨A, cap, rfl, hc, hn, hj⟩ := h
  refine ⟨_, ⟨_, cap - k, by rw [List.length_drop], by rw [List.length_drop]; omega, fun e => ?_, fun j h => ?_⟩, fun W => run_lo hk⟩
  · by_cases hck : cap = k
    · omega
    · rw [if_neg hck] at e
      cases A with
      | none => have := hn rfl; omega
      | some a => simp at e
  rw [List.length_drop] at h
  obtain ⟨b, o, hA, hcell, hbl⟩ := hj (k + j) (by omega)
  refine ⟨b, o + k, ?_, ?_, hbl⟩
  · rw [if_neg (by omega), hA]
    simp only [Option.map_some, Addr.add]
    split
    · rename_i h0; subst h0; rfl
    · rfl
  · rw [show o + k + j = o + (k + j) from by omega, hcell, List.getElem_drop]

theorem RunesAt.len {w : World} {v : Value} {R : List Int} (h : RunesAt w v R) (W : World) (ty : TypeId) :
    (Builtin.len_ #[25] ty #[v]).run Tryd.prog W = .ok (.int .i64 R.length) W := by
  obtain ⟨A, cap, rfl, hc, hn, hj⟩ := h
  simp [Builtin.len_, run_underlying Tryd.underlying25, Sem.run, goInt]

theorem RunesAt.text {w : World} {v : Value} {R : List Int} (h : RunesAt w v R) :
    (convert 25 9 v).run Tryd.prog w = .ok (.string (runesBytes R)) w := by
  obtain ⟨A, cap, rfl, hc, hn, hj⟩ := h
  by_cases h0 : R.length = 0
  · have hR : R = [] := List.length_eq_zero_iff.1 h0
    subst hR
    cases A with
    | none => exact run_convert_runes_nil w 25 9 21 _ _ Tryd.underlying25 Tryd.underlying21 Tryd.underlying9
    | some a =>
      have := run_convert_runes w 25 9 21 a 0 cap [] (by simp) Tryd.underlying25 Tryd.underlying21 Tryd.underlying9 (fun j hj => absurd hj (Nat.not_lt_zero _))
      exact this
  · obtain ⟨b, o, rfl, hc0, _⟩ := hj 0 (by omega)
    have := run_convert_runes w 25 9 21 ⟨b, o, none⟩ R.length cap R (Nat.le_refl _) Tryd.underlying25 Tryd.underlying21 Tryd.underlying9 (fun j hjl => by
      obtain ⟨b', o', hA, hcell, _⟩ := hj j hjl
      cases hA
      have e : (⟨b, o, none⟩ : Addr).add j = ⟨b, o + j, none⟩ := by
        unfold Addr.add
        split
        · rename_i h0; subst h0; rfl
        · rfl
      rw [e, hcell, List.getD_eq_getElem?_getD, List.getElem?_eq_getElem hjl]
      rfl)
    rw [List.take_length] at this
    exact this

theorem sliceAt_eq (v : Value) (lo hi mx : Option Value) (W : World) : (Instr.sliceAt 25 v lo hi mx).run Tryd.prog W = (Instr.slice 25 v lo hi mx).run Tryd.prog W := by
  simp [Instr.sliceAt, run_underlying Tryd.underlying25]

theorem RunesAt.index {w : World} {v : Value} {R : List Int} (h : RunesAt w v R) (j : Nat) (hj : j < R.length) :
    ∃ b o, w.cell? ⟨b, o, none⟩ = some (.int .i32 R[j]) ∧ ∀ W : World, (Instr.indexAt 25 v (.int .i64 j)).run Tryd.prog W = .ok (.pointer (some ⟨b, o, none⟩)) W := by
  obtain ⟨A, cap, rfl, hc, hn, hjj⟩ := h
  obtain ⟨b, o, rfl, hcell, _⟩ := hjj j hj
  refine ⟨b, o + j, hcell, fun W => ?_⟩
  have e : (⟨b, o, none⟩ : Addr).add j = ⟨b, o + j, none⟩ := by
    unfold Addr.add
    split
    · rename_i h0; subst h0; rfl
    · rfl
  simp [Instr.indexAt, asIntOf, run_underlying Tryd.underlying25, Sem.run, Tryd.sizeOf21, hj, e]

/-- where one stands behind some runes: the line, the units in it, the bytes -/
def posStep (p : Int × Int × Int) (c : Int) : Int × Int × Int :=
  if c = 10 then (p.1 + 1, 0, p.2.2 + ((bl c).length : Int)) else (p.1, p.2.1 + units c, p.2.2 + ((bl c).length : Int))
def posOf (R : List Int) : Int × Int × Int := R.foldl posStep (0, 0, 0)

theorem posOf_snoc (R : List Int) (c : Int) : posOf (R ++ [c]) = posStep (posOf R) c := by simp [posOf]

theorem posOf_bounds : ∀ (n : Nat) (R : List Int), R.length = n → (∀ c ∈ R, InA c) → 0 ≤ (posOf R).1 ∧ (posOf R).1 ≤ n ∧ 0 ≤ (posOf R).2.1 ∧ (posOf R).2.1 ≤ 2 * n ∧ 0 ≤ (posOf R).2.2 ∧ (posOf R).2.2 ≤ 4 * n
  | 0, R, h, _ => by
    have : R = [] := List.length_eq_zero_iff.1 h
    subst this
    simp [posOf]
  | n + 1, R, h, hR => by
    have hne : R ≠ [] := by intro e; rw [e] at h; simp at h
    have hR2 : R = R.dropLast ++ [R.getLast hne] := (List.dropLast_concat_getLast hne).symm
    have hl : R.dropLast.length = n := by rw [List.length_dropLast]; omega
    have ih := posOf_bounds n R.dropLast hl (fun c hc => hR c (List.dropLast_subset R hc))
    have hc := bl_length (R.getLast hne) (hR _ (List.getLast_mem hne))
    have hu := units_bd (R.getLast hne)
    rw [hR2, posOf_snoc]
    unfold posStep
    split
    · simp only
      omega
    · simp only
      omega

theorem encode_size (c : Int) : (Utf8.encode c).size = (bl c).length := Lib.size_eq _

theorem Own2.set1 {W : World} {b : Nat} {v z : Value} (h : Own2 W b v z) (t : Value) : Own2 (W.setCell ⟨b, 1, none⟩ t) b v t := by
  refine ⟨⟨?_, ?_⟩, ?_, ?_⟩
  · rw [World.cell?_setCell_other _ _ _ _ (by simp)]; exact h.1.1
  · rw [World.frozen?_setCell]; exact h.1.2
  · exact World.cell?_setCell_same' _ _ _ (by rw [h.2.1]; rfl)
  · rw [World.frozen?_setCell]; exact h.2.2

theorem Own2.set0 {W : World} {b : Nat} {v z : Value} (h : Own2 W b v z) (t : Value) : Own2 (W.setCell ⟨b, 0, none⟩ t) b t z := by
  refine ⟨⟨?_, ?_⟩, ?_, ?_⟩
  · exact World.cell?_setCell_same' _ _ _ (by rw [h.1.1]; rfl)
  · rw [World.frozen?_setCell]; exact h.1.2
  · rw [World.cell?_setCell_other _ _ _ _ (by simp)]; exact h.2.1
  · rw [World.frozen?_setCell]; exact h.2.2

set_option maxRecDepth 1000000 in
set_option maxHeartbeats 4000000 in
theorem plainAt_any (tv : Value) (R : List Int) (hR : ∀ c ∈ R, InA c) (hRl : R.length ≤ 100000) (k : Nat) (hk : k ≤ R.length) (w : World) (h : RunesAt w tv R) :
    Calls Tryd.prog 7 #[tv, .int .i64 k] w fun e w' => e = .returned (.tuple #[.agg #[.int .i64 (posOf (R.take k)).1, .int .i64 (posOf (R.take k)).2.1], .int .i64 (posOf (R.take k)).2.2]) ∧ Below w.heap.size w w' := by
  obtain ⟨v1, h1, hs1⟩ := h.hi k hk
  have hs1' : ∀ W : World, (Instr.sliceAt 25 tv none (some (.int .i64 k)) none).run Tryd.prog W = .ok v1 W := fun W => (sliceAt_eq _ _ _ _ W).trans (hs1 W)
  have hl1 := h1.len
  rw [List.length_take, Nat.min_eq_left hk] at hl1
  have hu35 := Tryd.underlying35
  have HR := Lib.hid hR
  have H1 := Lib.hid h1
  clear hR h1 h hs1
  go_enter Tryd.func7, Tryd.ntmps7
  go_wp2
  go_loopw [5, 12] (fun bv iv wr => ∃ (i : Nat) (ln ch by_ : Int), i ≤ k ∧ iv = .int .i64 i ∧ bv = .int .i64 by_ ∧ Own2 wr w.heap.size (.int .i64 ln) (.int .i64 ch) ∧ Hid (posOf (R.take i) = (ln, ch, by_)) ∧ Below w.heap.size w wr ∧ 0 ≤ ln ∧ ln ≤ i ∧ 0 ≤ ch ∧ ch ≤ 2 * (i : Int) ∧ 0 ≤ by_ ∧ by_ ≤ 4 * (i : Int)) (fun _ iv _ => k - (intOf iv).toNat)
  case atStart => exact ⟨0, 0, 0, 0, Nat.zero_le _, rfl, rfl, Own2.new _ _ _ _, Lib.hid rfl, (Below.refl _ _).alloc (Nat.le_refl _) _, by omega, by omega, by omega, by omega, by omega, by omega⟩
  case round =>
    obtain ⟨i, ln, ch, by_, hik, rfl, rfl, ⟨⟨q0, f0⟩, q1, f1⟩, hp, hB, b1, b2, b3, b4, b5, b6⟩ := hrel
    by_cases hlt : i < k
    · obtain ⟨b, o, hcell, hix⟩ := (H1.out.below hB).index i (by rw [List.length_take]; omega)
      rw [List.getElem_take] at hcell
      obtain ⟨c, hc⟩ : ∃ c, R[i] = c := ⟨_, rfl⟩
      rw [hc] at hcell
      have hcA : InA c := by rw [← hc]; exact HR.out _ (List.getElem_mem (by omega))
      have hnext : posOf (R.take (i + 1)) = posStep (ln, ch, by_) c := by rw [take_succ_at R i (by omega), posOf_snoc, hp.out, hc]
      have hbl := bl_length c hcA
      have hes := encode_size c
      have HN := Lib.hid hnext
      have HCc := Lib.hid hc
      have HCA := Lib.hid hcA
      clear hnext hc hcA
      obtain ⟨m, hm⟩ : ∃ m, (bl c).length = m := ⟨_, rfl⟩
      rw [hm] at hbl hes
      have Hm := Lib.hid hm
      clear hm
      have Ho : Own2 wr w.heap.size (.int .i64 ln) (.int .i64 ch) := ⟨⟨q0, f0⟩, q1, f1⟩
      by_cases h10 : c = 10
      · subst h10
        simp only [posStep, if_pos] at HN
        go_wp2
        all_goals go_ways
        refine ⟨⟨i + 1, ln + 1, 0, by_ + (m : Int), by omega, by simp, rfl, ((Ho.set1 _).set0 _).set1 _, Lib.hid ?_, ((hB.setCell (p := ⟨_, 1, none⟩) (Nat.le_refl _) _).setCell (p := ⟨_, 0, none⟩) (Nat.le_refl _) _).setCell (p := ⟨_, 1, none⟩) (Nat.le_refl _) _, by omega, by omega, by omega, by omega, by omega, by omega⟩, ?_⟩
        · rw [HN.out, Hm.out]
        · simp only [intOf]; omega
      · by_cases hbig : 65535 < c
        · have hu2 : units c = 2 := if_pos hbig
          go_wp2
          all_goals go_ways
          refine ⟨⟨i + 1, ln, ch + 1 + 1, by_ + (m : Int), by omega, by simp, rfl, (Ho.set1 _).set1 _, Lib.hid ?_, (hB.setCell (p := ⟨_, 1, none⟩) (Nat.le_refl _) _).setCell (p := ⟨_, 1, none⟩) (Nat.le_refl _) _, by omega, by omega, by omega, by omega, by omega, by omega⟩, ?_⟩
          · rw [HN.out, posStep, if_neg h10, hu2, Hm.out, Int.add_assoc]; rfl
          · simp only [intOf]; omega
        · have hu1 : units c = 1 := if_neg hbig
          go_wp2
          all_goals go_ways
          refine ⟨⟨i + 1, ln, ch + 1, by_ + (m : Int), by omega, by simp, rfl, Ho.set1 _, Lib.hid ?_, hB.setCell (p := ⟨_, 1, none⟩) (Nat.le_refl _) _, by omega, by omega, by omega, by omega, by omega, by omega⟩, ?_⟩
          · rw [HN.out, posStep, if_neg h10, hu1, Hm.out]
          · simp only [intOf]; omega
    · have hik' : i = k := by omega
      subst hik'
      have Ho : Own2 wr w.heap.size (.int .i64 ln) (.int .i64 ch) := ⟨⟨q0, f0⟩, q1, f1⟩
      go_wp2
      have Ho2 := (Ho.set0 (.int .i64 ln)).set1 (.int .i64 ch)
      obtain ⟨W2, hW2⟩ : ∃ W2, (wr.setCell ⟨w.heap.size, 0, none⟩ (.int .i64 ln)).setCell ⟨w.heap.size, 1, none⟩ (.int .i64 ch) = W2 := ⟨_, rfl⟩
      have hb2 : Below w.heap.size w W2 := by rw [← hW2]; exact (hB.setCell (p := ⟨_, 0, none⟩) (Nat.le_refl _) _).setCell (p := ⟨_, 1, none⟩) (Nat.le_refl _) _
      rw [hW2] at Ho2 ⊢
      have e0 := Ho2.1.1
      have e1 := Ho2.2.1
      refine bodyPost_ret (v := .tuple #[.agg #[.int .i64 ln, .int .i64 ch], .int .i64 by_]) ?_ rfl ⟨?_, hb2⟩
      · simp [results, Tryd.results7, go_sem, hu35, e0, e1]
      · rw [hp.out]

end Go.Proofs.YtppjpkkkogmhfaaDoor
