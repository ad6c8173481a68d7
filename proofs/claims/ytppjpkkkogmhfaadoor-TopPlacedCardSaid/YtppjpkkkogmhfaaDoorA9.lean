/- This text proves a part of emendtop.TopPlaced: a line's two ends: function 17, over texts of the alphabet. Its conditions stand ahead of each theorem. -/
import Derived.Test.YtppjpkkkogmhfaaDoorA8
namespace Go.Proofs.YtppjpkkkogmhfaaDoor
open Go.RowKit Go.Shelf
attribute [local go_sem] Oper.semAt_some

def lineOf (R : List Int) (n : Int) : Int × Int × Bool :=
  if 0 ≤ n then match (lns R)[n.toNat]? with
    | some x => (x.1, x.2, true)
    | none => (0, 0, false)
  else (0, 0, false)

/-- a cell of one's own: what it holds, and that it may be written -/
def Own1 (W : World) (b : Nat) (v : Value) : Prop := W.cell? ⟨b, 0, none⟩ = some v ∧ W.frozen? ⟨b, 0, none⟩ = false
theorem Own1.kept {W W' : World} {b : Nat} {v : Value} {row : Option Nat} (h : Own1 W b v) (hg : W.grownBy W' row) (hr : ∀ r, row = some r → ∃ o : Obj, W.heap[r]? = some o ∧ o.isCells = false) : Own1 W' b v :=
  ⟨cell_kept h.1 hg hr, (frozen_kept h.1 hg hr).trans h.2⟩
theorem Own1.alloc {W : World} {b : Nat} {v : Value} (o : Obj) (h : Own1 W b v) : Own1 (W.alloc o) b v := ⟨cell_alloc_l o h.1, frozen_alloc_l o h.1 h.2⟩
theorem Own1.new (W : World) (v : Value) (t : TypeId) : Own1 (W.alloc (.cells #[v] t)) W.heap.size v := cell_new_l W v t
theorem Own1.set {W : World} {b : Nat} {v : Value} (h : Own1 W b v) (u : Value) : Own1 (W.setCell ⟨b, 0, none⟩ u) b u :=
  ⟨World.cell?_setCell_same' _ _ _ (by rw [h.1]; rfl), by rw [World.frozen?_setCell]; exact h.2⟩
theorem Own1.other {W : World} {b c : Nat} {v : Value} (h : Own1 W b v) (hbc : b ≠ c) (u : Value) : Own1 (W.setCell ⟨c, 0, none⟩ u) b v :=
  ⟨(World.cell?_of_block (w := W) (w' := W.setCell ⟨c, 0, none⟩ u) (Below.heap_setCell W ⟨c, 0, none⟩ u b hbc)).trans h.1, by rw [World.frozen?_setCell]; exact h.2⟩

set_option maxRecDepth 100000 in
set_option maxHeartbeats 4000000 in
theorem line_in (n : Nat) (hn : 3 ≤ n) (s : ByteArray) (R : List Int) (k : Int) (hs : s.data.toList = bs R) (hR : ∀ c ∈ R, InA c) (hRl : R.length < 1000000) (hsz : s.size < 4294967281) (w : World) :
    CallsIn W0 n Tryd.prog 17 #[.string s, .int .i64 k] w fun e W' => e = .returned (.tuple #[.int .i64 (lineOf R k).1, .int .i64 (lineOf R k).2.1, .bool (lineOf R k).2.2]) ∧ Below w.heap.size w W' := by
  have h1 : 1 ≤ n := by omega
  have hLen := lnsF_length R 0 0
  refine callsIn_of_wp_marks Tryd.func17 rfl trivial ?_ rfl
  simp only [Tryd.ntmps17, List.size_toArray, List.length_cons, List.length_nil, Nat.reduceAdd, Nat.reduceSub, Array.replicate_succ, Array.replicate_zero, List.push_toArray, List.append_toArray, List.nil_append, List.cons_append]
  gi_wp2_with (refine ⟨trivial, ?_⟩; gi_at_call 19; refine (each_in (n - 1) _ _).mono ?_; rintro e w' ⟨rfl, rfl⟩)
  have o0 := Own1.new w (.int .i64 k) 3
  have o1 := Own1.new (w.alloc (.cells #[.int .i64 k] 3)) (.int .i64 0) 3
  have o2 := Own1.new ((w.alloc (.cells #[.int .i64 k] 3)).alloc (.cells #[.int .i64 0] 3)) (.int .i64 0) 3
  have o3 := Own1.new (((w.alloc (.cells #[.int .i64 k] 3)).alloc (.cells #[.int .i64 0] 3)).alloc (.cells #[.int .i64 0] 3)) (.bool false) 4
  have o4 := Own1.new ((((w.alloc (.cells #[.int .i64 k] 3)).alloc (.cells #[.int .i64 0] 3)).alloc (.cells #[.int .i64 0] 3)).alloc (.cells #[.bool false] 4)) (.int .i64 0) 3
  have o5 := Own1.new (((((w.alloc (.cells #[.int .i64 k] 3)).alloc (.cells #[.int .i64 0] 3)).alloc (.cells #[.int .i64 0] 3)).alloc (.cells #[.bool false] 4)).alloc (.cells #[.int .i64 0] 3)) (.string s) 9
  simp only [World.size_alloc] at o1 o2 o3 o4 o5
  have p0 := Own1.alloc (.cells #[.string s] 9) (Own1.alloc (.cells #[.int .i64 0] 3) (Own1.alloc (.cells #[.bool false] 4) (Own1.alloc (.cells #[.int .i64 0] 3) (Own1.alloc (.cells #[.int .i64 0] 3) (o0)))))
  have p1 := Own1.alloc (.cells #[.string s] 9) (Own1.alloc (.cells #[.int .i64 0] 3) (Own1.alloc (.cells #[.bool false] 4) (Own1.alloc (.cells #[.int .i64 0] 3) (o1))))
  have p2 := Own1.alloc (.cells #[.string s] 9) (Own1.alloc (.cells #[.int .i64 0] 3) (Own1.alloc (.cells #[.bool false] 4) (o2)))
  have p3 := Own1.alloc (.cells #[.string s] 9) (Own1.alloc (.cells #[.int .i64 0] 3) (o3))
  have p4 := Own1.alloc (.cells #[.string s] 9) (o4)
  have p5 := o5
  have hB0 : Below w.heap.size w ((((((w.alloc (.cells #[.int .i64 k] 3)).alloc (.cells #[.int .i64 0] 3)).alloc (.cells #[.int .i64 0] 3)).alloc (.cells #[.bool false] 4)).alloc (.cells #[.int .i64 0] 3)).alloc (.cells #[.string s] 9)) := ((((((Below.refl _ w).alloc (by simp <;> omega) _).alloc (by simp <;> omega) _).alloc (by simp <;> omega) _).alloc (by simp <;> omega) _).alloc (by simp <;> omega) _).alloc (by simp <;> omega) _
  refine wpIn_rangeFunc_ownF rfl h1 (gf := 29) (lb := #[.pointer (some ⟨w.heap.size + 1 + 1 + 1 + 1 + 1, 0, none⟩)]) rfl trivial (enters_of Tryd.func29 (by kernel_rfl) rfl)
    (each_stops (n - 1) (by omega) s R hs hR hsz (w.heap.size + 1 + 1 + 1 + 1 + 1) _ o5.1) (fun h k => BoxKept.trans h k) (BoxKept.put (by simp)) (Below.refl _ _) (fun _ => rfl)
    (fun pre W => (Own1 W (w.heap.size) (.int .i64 k) ∧ Own1 W (w.heap.size + 1) (.int .i64 0) ∧ Own1 W (w.heap.size + 1 + 1) (.int .i64 0) ∧ Own1 W (w.heap.size + 1 + 1 + 1) (.bool false) ∧ Own1 W (w.heap.size + 1 + 1 + 1 + 1) (.int .i64 pre.length) ∧ Hid (k < 0 ∨ (pre.length : Int) ≤ k)) ∧ Below w.heap.size w W)
    (fun c pre W => (c = .ret ∧ ∃ pre' x, pre = pre' ++ [x] ∧ k = (pre'.length : Int) ∧ Own1 W (w.heap.size + 1) (.int .i64 x.1.1) ∧ Own1 W (w.heap.size + 1 + 1) (.int .i64 x.1.2) ∧ Own1 W (w.heap.size + 1 + 1 + 1) (.bool true)) ∧ Below w.heap.size w W)
    (OwnFrom.and (Own.from (fun s A B row hs hg hr => ⟨hs.1.kept hg hr, hs.2.1.kept hg hr, hs.2.2.1.kept hg hr, hs.2.2.2.1.kept hg hr, hs.2.2.2.2.1.kept hg hr, hs.2.2.2.2.2⟩) _) (ownFrom_below (Nat.le_refl _) (by simp; omega)))
    (fun c => OwnFrom.and (Own.from (fun s A B row hs hg hr => by obtain ⟨hc, pre', x, e1, e2, q1, q2, q3⟩ := hs; exact ⟨hc, pre', x, e1, e2, q1.kept hg hr, q2.kept hg hr, q3.kept hg hr⟩) _) (ownFrom_below (Nat.le_refl _) (by simp; omega)))
    ⟨⟨p0, p1, p2, p3, p4, Lib.hid (by show k < 0 ∨ (0 : Int) ≤ k; omega)⟩, hB0⟩
    (fun x : LP s.size => { tmps := #[.string s, .int .i64 k, undef, .pointer (some ⟨w.heap.size, 0, none⟩), .pointer (some ⟨w.heap.size + 1, 0, none⟩), .pointer (some ⟨w.heap.size + 1 + 1, 0, none⟩), .pointer (some ⟨w.heap.size + 1 + 1 + 1, 0, none⟩), .pointer (some ⟨w.heap.size + 1 + 1 + 1 + 1, 0, none⟩), .int .i64 x.1.1, .int .i64 x.1.2, .string s, .func (.func 29) #[] #[.pointer (some ⟨w.heap.size + 1 + 1 + 1 + 1 + 1, 0, none⟩)], .int .i64 x.1.1, .int .i64 x.1.2, undef, undef, undef, undef, undef, undef, undef], defers := [] }) ?assign ?body ?done ?stop
  case assign =>
    intro l x W K hK
    simp only [encP]
    gi_wp2
    exact hK
  case body =>
    rintro l pre x W ⟨⟨⟨q0, f0⟩, ⟨q1, f1⟩, ⟨q2, f2⟩, ⟨q3, f3⟩, ⟨q4, f4⟩, hk⟩, hB⟩ hlt
    unfold lns at hlt
    by_cases hkk : (pre.length : Int) = k
    · have hkb : ((pre.length : Int) == k) = true := by simp [hkk]
      have Hkk := Lib.hid hkk
      clear hkk
      gi_wp2
      have Q1 := ((Own1.set ⟨q1, f1⟩ (.int .i64 x.1.1)).other (c := w.heap.size + 1 + 1) (by omega) (.int .i64 x.1.2)).other (c := w.heap.size + 1 + 1 + 1) (by omega) (.bool true)
      have Q2 := (Own1.set (Own1.other ⟨q2, f2⟩ (c := w.heap.size + 1) (by omega) (.int .i64 x.1.1)) (.int .i64 x.1.2)).other (c := w.heap.size + 1 + 1 + 1) (by omega) (.bool true)
      have Q3 := Own1.set (Own1.other (Own1.other ⟨q3, f3⟩ (c := w.heap.size + 1) (by omega) (.int .i64 x.1.1)) (c := w.heap.size + 1 + 1) (by omega) (.int .i64 x.1.2)) (.bool true)
      exact ⟨((KeepsOthers.setCell _ _ _).trans (KeepsOthers.setCell _ _ _)).trans (KeepsOthers.setCell _ _ _), ⟨rfl, pre, x, rfl, Hkk.out.symm, Q1, Q2, Q3⟩, ((hB.setCell (p := ⟨_, 0, none⟩) (by show w.heap.size ≤ w.heap.size + 1; omega) _).setCell (p := ⟨_, 0, none⟩) (by show w.heap.size ≤ w.heap.size + 1 + 1; omega) _).setCell (p := ⟨_, 0, none⟩) (by show w.heap.size ≤ w.heap.size + 1 + 1 + 1; omega) _⟩
    · have hkb : ((pre.length : Int) == k) = false := by simp [hkk]
      have Hkk := Lib.hid hkk
      clear hkk
      gi_wp2
      have Q4 := Own1.set ⟨q4, f4⟩ (.int .i64 ((pre.length : Int) + 1))
      refine ⟨KeepsOthers.setCell _ _ _, BoxKept.setCell _ _ _ (by simp), ⟨Own1.other ⟨q0, f0⟩ (by omega) _, Own1.other ⟨q1, f1⟩ (by omega) _, Own1.other ⟨q2, f2⟩ (by omega) _, Own1.other ⟨q3, f3⟩ (by omega) _, ?_, Lib.hid ?_⟩, hB.setCell (p := ⟨_, 0, none⟩) (by show w.heap.size ≤ w.heap.size + 1 + 1 + 1 + 1; omega) _⟩
      · rw [List.length_append, List.length_singleton]
        exact Q4
      · have h2 := hk.out
        have h3 := Hkk.out
        rw [List.length_append, List.length_singleton]
        push_cast
        omega
  case done =>
    rintro D ys W hD hys ⟨⟨⟨q0, f0⟩, ⟨q1, f1⟩, ⟨q2, f2⟩, ⟨q3, f3⟩, ⟨q4, f4⟩, hk⟩, hB⟩ hK
    have hyl : ys.length = (lns R).length := by rw [← hys]; simp [vals]
    rw [hyl] at hk q4
    clear hys hyl
    gi_wp2
    obtain ⟨W3, hW3⟩ : ∃ W3, ((W.setCell ⟨w.heap.size + 1, 0, none⟩ (.int .i64 0)).setCell ⟨w.heap.size + 1 + 1, 0, none⟩ (.int .i64 0)).setCell ⟨w.heap.size + 1 + 1 + 1, 0, none⟩ (.bool false) = W3 := ⟨_, rfl⟩
    have hKO : KeepsOthers W W3 := by rw [← hW3]; exact ((KeepsOthers.setCell _ _ _).trans (KeepsOthers.setCell _ _ _)).trans (KeepsOthers.setCell _ _ _)
    have hK' := hKO.same D _ hK rfl
    have Q1 := ((Own1.set ⟨q1, f1⟩ (.int .i64 0)).other (c := w.heap.size + 1 + 1) (by omega) (.int .i64 0)).other (c := w.heap.size + 1 + 1 + 1) (by omega) (.bool false)
    have Q2 := (Own1.set (Own1.other ⟨q2, f2⟩ (c := w.heap.size + 1) (by omega) (.int .i64 0)) (.int .i64 0)).other (c := w.heap.size + 1 + 1 + 1) (by omega) (.bool false)
    have Q3 := Own1.set (Own1.other (Own1.other ⟨q3, f3⟩ (c := w.heap.size + 1) (by omega) (.int .i64 0)) (c := w.heap.size + 1 + 1) (by omega) (.int .i64 0)) (.bool false)
    have hB3 := ((hB.setCell (p := ⟨w.heap.size + 1, 0, none⟩) (by show w.heap.size ≤ w.heap.size + 1; omega) (.int .i64 0)).setCell (p := ⟨w.heap.size + 1 + 1, 0, none⟩) (by show w.heap.size ≤ w.heap.size + 1 + 1; omega) (.int .i64 0)).setCell (p := ⟨w.heap.size + 1 + 1 + 1, 0, none⟩) (by show w.heap.size ≤ w.heap.size + 1 + 1 + 1; omega) (.bool false)
    rw [hW3] at Q1 Q2 Q3 hB3 ⊢
    refine ⟨by simp, .inl ⟨_, _, rfl, run_takeDeferred hK', ?_⟩⟩
    have hput : ∀ r, some D = some r → ∃ o : Obj, W3.heap[r]? = some o ∧ o.isCells = false := fun r e => by cases e; exact ⟨_, hK', rfl⟩
    have r1 := (Q1.kept (grownBy_putObj' _ D (.deferred none)) hput).1
    have r2 := (Q2.kept (grownBy_putObj' _ D (.deferred none)) hput).1
    have r3 := (Q3.kept (grownBy_putObj' _ D (.deferred none)) hput).1
    have hl : lineOf R k = (0, 0, false) := by
      unfold lineOf
      by_cases h0 : 0 ≤ k
      · rw [if_pos h0, List.getElem?_eq_none (by have := hk.out; omega)]
      · rw [if_neg h0]
    refine ⟨.tuple #[.int .i64 0, .int .i64 0, .bool false], ?_, by rw [hl], hB3.trans (belowK_b (w := w) (Nat.le_refl _) _ D _ _ (by simp at hD; omega) hK' rfl rfl)⟩
    simp [results, Tryd.f17, go_sem, r1, r2, r3]
  case stop =>
    rintro D c pre W hD hpre ⟨⟨rfl, pre', x, rfl, hk, ⟨q1, f1⟩, ⟨q2, f2⟩, ⟨q3, f3⟩⟩, hB⟩ hK
    gi_wp2
    refine ⟨by simp, .inl ⟨_, _, rfl, run_takeDeferred hK, ?_⟩⟩
    have hput : ∀ r, some D = some r → ∃ o : Obj, W.heap[r]? = some o ∧ o.isCells = false := fun r e => by cases e; exact ⟨_, hK, rfl⟩
    have r1 := (Own1.kept ⟨q1, f1⟩ (grownBy_putObj' _ D (.deferred none)) hput).1
    have r2 := (Own1.kept ⟨q2, f2⟩ (grownBy_putObj' _ D (.deferred none)) hput).1
    have r3 := (Own1.kept ⟨q3, f3⟩ (grownBy_putObj' _ D (.deferred none)) hput).1
    have hl : lineOf R k = (x.1.1, x.1.2, true) := by
      obtain ⟨z, hz⟩ := hpre
      unfold lineOf
      rw [if_pos (by omega), hk, Int.toNat_natCast, ← hz]
      simp [vals]
    refine ⟨.tuple #[.int .i64 x.1.1, .int .i64 x.1.2, .bool true], ?_, by rw [hl], hB.trans (belowK_b (w := w) (Nat.le_refl _) _ D _ _ (by simp at hD; omega) hK rfl rfl)⟩
    simp [results, Tryd.f17, go_sem, r1, r2, r3]

end Go.Proofs.YtppjpkkkogmhfaaDoor
