/- This text proves a part of emendtop.TopPlaced: the line and unit of a byte: function 11, over texts of the alphabet. Its conditions stand ahead of each theorem. -/
import Derived.Test.YtppjpkkkogmhfaaDoorA9
import Derived.Test.YtppjpkkkogmhfaaDoorR1
import Derived.IntWalk
namespace Go.Proofs.YtppjpkkkogmhfaaDoor
open Go.RowKit Go.Shelf
attribute [local go_sem] Oper.semAt_some

theorem lnsF_bounds : ∀ (Q : List Int) (st pos : Nat), st ≤ pos → ∀ x ∈ lnsF st pos Q, 0 ≤ x.1 ∧ x.1 ≤ x.2 ∧ x.2 ≤ ((pos + (bs Q).length : Nat) : Int)
  | [], st, pos, h => by
    intro x hx
    simp [lnsF] at hx
    subst hx
    simp [bs]
    omega
  | c :: Q, st, pos, h => by
    intro x hx
    by_cases hc : c = 10
    · rw [lnsF, if_pos hc] at hx
      rcases List.mem_cons.1 hx with rfl | hx
      · rw [bs_cons, List.length_append]
        simp only
        omega
      · have := lnsF_bounds Q (pos + 1) (pos + 1) (Nat.le_refl _) x hx
        have h2 : (bl c).length = 1 := by rw [hc, bl10]; rfl
        rw [bs_cons, List.length_append, h2]
        omega
    · rw [lnsF, if_neg hc] at hx
      have := lnsF_bounds Q st (pos + (bl c).length) (by omega) x hx
      rw [bs_cons, List.length_append]
      omega

def atFrom (s : ByteArray) (P : Int) : List (Int × Int) → Nat → Int × Int → Int × Int
  | [], _, p => p
  | x :: l, i, p => if x.1 > P then p else atFrom s P l (i + 1) ((i : Int), utfUnitsAt (s.extract x.1.toNat x.2.toNat) (P - x.1))

def atOf (s : ByteArray) (R : List Int) (place : Int) : Int × Int := atFrom s (max 0 (min place (s.size : Int))) (lns R) 0 (0, 0)

def Own2 (W : World) (b : Nat) (v u : Value) : Prop := (W.cell? ⟨b, 0, none⟩ = some v ∧ W.frozen? ⟨b, 0, none⟩ = false) ∧ W.cell? ⟨b, 1, none⟩ = some u ∧ W.frozen? ⟨b, 1, none⟩ = false
theorem Own2.kept {W W' : World} {b : Nat} {v u : Value} {row : Option Nat} (h : Own2 W b v u) (hg : W.grownBy W' row) (hr : ∀ r, row = some r → ∃ o : Obj, W.heap[r]? = some o ∧ o.isCells = false) : Own2 W' b v u :=
  ⟨⟨cell_kept h.1.1 hg hr, (frozen_kept h.1.1 hg hr).trans h.1.2⟩, cell_kept h.2.1 hg hr, (frozen_kept h.2.1 hg hr).trans h.2.2⟩
theorem Own2.alloc {W : World} {b : Nat} {v u : Value} (o : Obj) (h : Own2 W b v u) : Own2 (W.alloc o) b v u :=
  ⟨⟨cell_alloc_l o h.1.1, frozen_alloc_l o h.1.1 h.1.2⟩, cell_alloc_l o h.2.1, frozen_alloc_l o h.2.1 h.2.2⟩
theorem Own2.of_box {W : World} {B : Nat} {v u : Value} {t : TypeId} (h : W.heap[B]? = some (.cells #[v, u] t (0, 0))) : Own2 W B v u := by
  refine ⟨⟨?_, ?_⟩, ?_, ?_⟩ <;> simp [World.cell?, World.frozen?, h]
theorem Own2.new (W : World) (v u : Value) (t : TypeId) : Own2 (W.alloc (.cells #[v, u] t)) W.heap.size v u := Own2.of_box (World.alloc_heap_new W _)

theorem Own1.below {W W' : World} {b : Nat} {v : Value} (h : Own1 W b v) (hb : Below W.heap.size W W') : Own1 W' b v :=
  h.kept (grown_of_below hb) (fun r e => by cases e)
theorem Own2.below {W W' : World} {b : Nat} {v u : Value} (h : Own2 W b v u) (hb : Below W.heap.size W W') : Own2 W' b v u :=
  h.kept (grown_of_below hb) (fun r e => by cases e)
theorem Own1.otherA {W : World} {b : Nat} {v : Value} (h : Own1 W b v) (a : Addr) (hbc : b ≠ a.block) (u : Value) : Own1 (W.setCell a u) b v :=
  ⟨(World.cell?_of_block (w := W) (w' := W.setCell a u) (Below.heap_setCell W a u b hbc)).trans h.1, by rw [World.frozen?_setCell]; exact h.2⟩
theorem Own2.otherA {W : World} {b : Nat} {v z : Value} (h : Own2 W b v z) (a : Addr) (hbc : b ≠ a.block) (u : Value) : Own2 (W.setCell a u) b v z :=
  ⟨⟨(World.cell?_of_block (w := W) (w' := W.setCell a u) (Below.heap_setCell W a u b hbc)).trans h.1.1, by rw [World.frozen?_setCell]; exact h.1.2⟩,
   (World.cell?_of_block (w := W) (w' := W.setCell a u) (Below.heap_setCell W a u b hbc)).trans h.2.1, by rw [World.frozen?_setCell]; exact h.2.2⟩
theorem Own2.set {W : World} {b : Nat} {v z : Value} (h : Own2 W b v z) (u t : Value) : Own2 ((W.setCell ⟨b, 0, none⟩ u).setCell ⟨b, 1, none⟩ t) b u t := by
  have h1 : (W.setCell ⟨b, 0, none⟩ u).cell? ⟨b, 1, none⟩ = some z := by rw [World.cell?_setCell_other _ _ _ _ (by simp)]; exact h.2.1
  have h0 : (W.setCell ⟨b, 0, none⟩ u).cell? ⟨b, 0, none⟩ = some u := World.cell?_setCell_same' _ _ _ (by rw [h.1.1]; rfl)
  refine ⟨⟨?_, ?_⟩, ?_, ?_⟩
  · rw [World.cell?_setCell_other _ _ _ _ (by simp)]; exact h0
  · rw [World.frozen?_setCell, World.frozen?_setCell]; exact h.1.2
  · exact World.cell?_setCell_same' _ _ _ (by rw [h1]; rfl)
  · rw [World.frozen?_setCell, World.frozen?_setCell]; exact h.2.2
theorem keepsOthers_below {W W' : World} (h : Below W.heap.size W W') : KeepsOthers W W' :=
  ⟨h.size, fun k o hk _ => (h.block k (Array.getElem?_eq_some_iff.1 hk).1).trans hk⟩
set_option maxRecDepth 100000 in
set_option maxHeartbeats 4000000 in
theorem at_in (n : Nat) (hn : 3 ≤ n) (s : ByteArray) (R : List Int) (place : Int) (hs : s.data.toList = bs R) (hR : ∀ c ∈ R, InA c) (hRl : R.length < 1000000) (hsz : s.size < 4294967281) (w : World) :
    CallsIn W0 n Tryd.prog 11 #[.string s, .int .i64 place] w fun e W' => e = .returned (.agg #[.int .i64 (atOf s R place).1, .int .i64 (atOf s R place).2]) ∧ Below w.heap.size w W' := by
  have h1 : 1 ≤ n := by omega
  have hLen := lnsF_length R 0 0
  refine callsIn_of_wp_marks Tryd.func11 rfl trivial ?_ rfl
  simp only [Tryd.ntmps11, List.size_toArray, List.length_cons, List.length_nil, Nat.reduceAdd, Nat.reduceSub, Array.replicate_succ, Array.replicate_zero, List.push_toArray, List.append_toArray, List.nil_append, List.cons_append]
  gi_wp2_with (refine ⟨trivial, ?_⟩; gi_at_call 19; refine (each_in (n - 1) _ _).mono ?_; rintro e w' ⟨rfl, rfl⟩)
  obtain ⟨mi, hmi⟩ : ∃ mi, min place (s.size : Int) = mi := ⟨_, rfl⟩
  obtain ⟨pl, hpl⟩ : ∃ pl, max 0 mi = pl := ⟨_, rfl⟩
  rw [hmi, hpl]
  have hpl0 : 0 ≤ pl := by omega
  have hpl1 : pl ≤ (s.size : Int) := by omega
  have Hat : Hid (atFrom s pl (lns R) 0 (0, 0) = atOf s R place) := Lib.hid (by unfold atOf; rw [hmi, hpl])
  clear hmi hpl
  have o0 := Own1.new w (.string s) 9
  have o1 := Own1.new (w.alloc (.cells #[.string s] 9)) (.int .i64 pl) 3
  have o2 := Own2.new ((w.alloc (.cells #[.string s] 9)).alloc (.cells #[.int .i64 pl] 3)) (.int .i64 0) (.int .i64 0) 35
  have o3 := Own2.new (((w.alloc (.cells #[.string s] 9)).alloc (.cells #[.int .i64 pl] 3)).alloc (.cells #[.int .i64 0, .int .i64 0] 35)) (.int .i64 0) (.int .i64 0) 35
  have o4 := Own1.new ((((w.alloc (.cells #[.string s] 9)).alloc (.cells #[.int .i64 pl] 3)).alloc (.cells #[.int .i64 0, .int .i64 0] 35)).alloc (.cells #[.int .i64 0, .int .i64 0] 35)) (.int .i64 0) 3
  have o5 := Own1.new (((((w.alloc (.cells #[.string s] 9)).alloc (.cells #[.int .i64 pl] 3)).alloc (.cells #[.int .i64 0, .int .i64 0] 35)).alloc (.cells #[.int .i64 0, .int .i64 0] 35)).alloc (.cells #[.int .i64 0] 3)) (.string s) 9
  simp only [World.size_alloc] at o1 o2 o3 o4 o5
  have p0 := Own1.alloc (.cells #[.string s] 9) (Own1.alloc (.cells #[.int .i64 0] 3) (Own1.alloc (.cells #[.int .i64 0, .int .i64 0] 35) (Own1.alloc (.cells #[.int .i64 0, .int .i64 0] 35) (Own1.alloc (.cells #[.int .i64 pl] 3) (o0)))))
  have p1 := Own1.alloc (.cells #[.string s] 9) (Own1.alloc (.cells #[.int .i64 0] 3) (Own1.alloc (.cells #[.int .i64 0, .int .i64 0] 35) (Own1.alloc (.cells #[.int .i64 0, .int .i64 0] 35) (o1))))
  have p2 := Own2.alloc (.cells #[.string s] 9) (Own2.alloc (.cells #[.int .i64 0] 3) (Own2.alloc (.cells #[.int .i64 0, .int .i64 0] 35) (o2)))
  have p3 := Own2.alloc (.cells #[.string s] 9) (Own2.alloc (.cells #[.int .i64 0] 3) (o3))
  have p4 := Own1.alloc (.cells #[.string s] 9) (o4)
  have p5 := o5
  have hB0 : Below w.heap.size w ((((((w.alloc (.cells #[.string s] 9)).alloc (.cells #[.int .i64 pl] 3)).alloc (.cells #[.int .i64 0, .int .i64 0] 35)).alloc (.cells #[.int .i64 0, .int .i64 0] 35)).alloc (.cells #[.int .i64 0] 3)).alloc (.cells #[.string s] 9)) := ((((((Below.refl _ w).alloc (by simp <;> omega) _).alloc (by simp <;> omega) _).alloc (by simp <;> omega) _).alloc (by simp <;> omega) _).alloc (by simp <;> omega) _).alloc (by simp <;> omega) _
  refine wpIn_rangeFunc_ownF rfl h1 (gf := 29) (lb := #[.pointer (some ⟨w.heap.size + 1 + 1 + 1 + 1 + 1, 0, none⟩)]) rfl trivial (enters_of Tryd.func29 (by kernel_rfl) rfl)
    (each_stops (n - 1) (by omega) s R hs hR hsz (w.heap.size + 1 + 1 + 1 + 1 + 1) _ o5.1) (fun h k => BoxKept.trans h k) (BoxKept.put (by simp)) (Below.refl _ _) (fun _ => rfl)
    (fun pre W => (Own1 W (w.heap.size) (.string s) ∧ Own1 W (w.heap.size + 1) (.int .i64 pl) ∧ Own2 W (w.heap.size + 1 + 1) (.int .i64 0) (.int .i64 0) ∧ (∃ pa pb : Int, Own2 W (w.heap.size + 1 + 1 + 1) (.int .i64 pa) (.int .i64 pb) ∧ Hid (∀ rest, vals pre ++ rest = lns R → atFrom s pl rest pre.length (pa, pb) = atOf s R place)) ∧ Own1 W (w.heap.size + 1 + 1 + 1 + 1) (.int .i64 pre.length) ∧ Own1 W (w.heap.size + 1 + 1 + 1 + 1 + 1) (.string s)) ∧ Below w.heap.size w W)
    (fun c pre W => (c = .exit 0 ∧ Own2 W (w.heap.size + 1 + 1) (.int .i64 0) (.int .i64 0) ∧ ∃ pa pb : Int, Own2 W (w.heap.size + 1 + 1 + 1) (.int .i64 pa) (.int .i64 pb) ∧ Hid (∀ rest, vals pre ++ rest = lns R → (pa, pb) = atOf s R place)) ∧ Below w.heap.size w W)
    (OwnFrom.and (Own.from (fun t A B row hs hg hr => by obtain ⟨q0, q1, q2, ⟨pa, pb, q3, hh⟩, q4, q5⟩ := hs; exact ⟨q0.kept hg hr, q1.kept hg hr, q2.kept hg hr, ⟨pa, pb, q3.kept hg hr, hh⟩, q4.kept hg hr, q5.kept hg hr⟩) _) (ownFrom_below (Nat.le_refl _) (by simp; omega)))
    (fun c => OwnFrom.and (Own.from (fun t A B row hs hg hr => by obtain ⟨hc, q2, pa, pb, q3, hh⟩ := hs; exact ⟨hc, q2.kept hg hr, pa, pb, q3.kept hg hr, hh⟩) _) (ownFrom_below (Nat.le_refl _) (by simp; omega)))
    ⟨⟨p0, p1, p2, ⟨0, 0, p3, Lib.hid (fun rest hr => by rw [← Hat.out, ← hr]; rfl)⟩, p4, p5⟩, hB0⟩
    (fun x : LP s.size => { tmps := #[.string s, .int .i64 place, .pointer (some ⟨w.heap.size, 0, none⟩), .pointer (some ⟨w.heap.size + 1, 0, none⟩), .pointer (some ⟨w.heap.size + 1 + 1, 0, none⟩), .pointer (some ⟨w.heap.size + 1 + 1 + 1, 0, none⟩), .pointer (some ⟨w.heap.size + 1 + 1 + 1 + 1, 0, none⟩), .int .i64 x.1.1, .int .i64 x.1.2, .int .i64 place, .string s, .int .i64 s.size, .int .i64 mi, .int .i64 pl, .string s, .func (.func 29) #[] #[.pointer (some ⟨w.heap.size + 1 + 1 + 1 + 1 + 1, 0, none⟩)], .int .i64 x.1.1, .int .i64 x.1.2, undef, undef, undef, undef, undef, undef, undef, undef, undef, undef, undef, undef, undef, undef, undef, undef], defers := [] }) ?assign ?body ?done ?stop
  case assign =>
    intro l x W K hK
    simp only [encP]
    gi_wp2
    exact hK
  case body =>
    rintro l pre ⟨⟨xa, xb⟩, hx0, hx1, hx2⟩ W ⟨⟨⟨q0, f0⟩, ⟨q1, f1⟩, q2, ⟨pa, pb, ⟨⟨q3, f3⟩, r3, g3⟩, hh⟩, ⟨q4, f4⟩, q5⟩, hB⟩ hlt
    obtain ⟨a, rfl⟩ := Int.eq_ofNat_of_zero_le hx0
    obtain ⟨b, rfl⟩ := Int.eq_ofNat_of_zero_le (show 0 ≤ xb by have := hx1; simp only at this; omega)
    simp only at hx0 hx1 hx2 ⊢
    clear p0 p1 p2 p3 p4 p5 o0 o1 o2 o3 o4 o5 hB0
    by_cases hgt : (a : Int) > pl
    · gi_wp2
      refine ⟨KeepsOthers.refl _, ⟨rfl, q2, pa, pb, ⟨⟨q3, f3⟩, r3, g3⟩, Lib.hid (fun rest hrest => ?_)⟩, hB⟩
      rw [← hh.out (((a : Int), (b : Int)) :: rest) (by rw [← hrest]; simp [vals]), atFrom, if_pos (by show (a : Int) > pl; omega)]
    · have hgt' : (a : Int) ≤ pl := by omega
      have hab : a ≤ b := by omega
      have hbs : b ≤ s.size := by omega
      have hw4 := World.block_lt_of_cell? W _ q4
      simp only at hw4
      gi_wp2
      have hmix : Tryd.prog.follows .mixedOrders = true := by kernel_rfl
      obtain ⟨B3, hB3⟩ : ∃ B3, B3 = w.heap.size + 1 + 1 + 1 := ⟨_, rfl⟩
      have hS0 : W.grownBy W.drew (some B3) := ⟨rfl, rfl, rfl, Nat.le_refl _, fun k _ _ => rfl⟩
      have hwr : IntKind.i64.wrap (pl - (a : Int)) = pl - (a : Int) := IntWalk.i64_in _ (by omega)
      obtain ⟨ua, hua⟩ : ∃ ua, utfUnitsAt (s.extract a b) (pl - (a : Int)) = ua := ⟨_, rfl⟩
      refine region_round (fun w' => W.grownBy w' (some B3)) (fun a' w' => (∃ x18 x19 x20 x21 x22 x23 x24 x25 x26 x27 x28 x29 x30 x31 x32 x33, a' = { tmps := #[.string s, .int .i64 place, .pointer (some ⟨w.heap.size, 0, none⟩), .pointer (some ⟨w.heap.size + 1, 0, none⟩), .pointer (some ⟨w.heap.size + 1 + 1, 0, none⟩), .pointer (some ⟨w.heap.size + 1 + 1 + 1, 0, none⟩), .pointer (some ⟨w.heap.size + 1 + 1 + 1 + 1, 0, none⟩), .int .i64 a, .int .i64 b, .int .i64 place, .string s, .int .i64 s.size, .int .i64 mi, .int .i64 pl, .string s, .func (.func 29) #[] #[.pointer (some ⟨w.heap.size + 1 + 1 + 1 + 1 + 1, 0, none⟩)], .int .i64 a, .int .i64 b, x18, x19, x20, x21, x22, x23, x24, x25, x26, x27, x28, x29, x30, x31, x32, x33], defers := [] }) ∧ ∃ w1, Below W.heap.size W w1 ∧ w' = (w1.setCell ⟨w.heap.size + 1 + 1 + 1, 0, none⟩ (.int .i64 pre.length)).setCell ⟨w.heap.size + 1 + 1 + 1, 1, none⟩ (.int .i64 ua)) hmix (noDefer_spec (by kernel_rfl)) ?_ ?_
      · -- the region
        refine wpAnyH_take (i := 0) (v := .int .i64 pre.length) rfl (by kernel_rfl) (by kernel_rfl) (by kernel_rfl) (fun _ _ _ h => h) (Or.inl ⟨by rfl, ?_⟩) hS0 ?_
        · intro w' hSw
          have c4 := hSw.cell q4 (fun e => by have e2 := Option.some.inj e; simp only at e2; omega)
          go_simp
        try simp only [Act.put, List.setIfInBounds_toArray, List.set_cons_zero, List.set_cons_succ]
        refine wpAnyH_take (i := 1) (v := .string s) rfl (by kernel_rfl) (by kernel_rfl) (by kernel_rfl) (fun _ _ _ h => h) (Or.inl ⟨by rfl, ?_⟩) hS0 ?_
        · intro w' hSw
          have c0 := hSw.cell q0 (fun e => by have e2 := Option.some.inj e; simp only at e2; omega)
          go_simp
        try simp only [Act.put, List.setIfInBounds_toArray, List.set_cons_zero, List.set_cons_succ]
        refine wpAnyH_take (i := 2) (v := .int .i64 a) rfl (by kernel_rfl) (by kernel_rfl) (by kernel_rfl) (fun _ _ _ h => h) (Or.inl ⟨by rfl, ?_⟩) hS0 ?_
        · intro w' hSw
          go_simp
        try simp only [Act.put, List.setIfInBounds_toArray, List.set_cons_zero, List.set_cons_succ]
        refine wpAnyH_take (i := 3) (v := .int .i64 b) rfl (by kernel_rfl) (by kernel_rfl) (by kernel_rfl) (fun _ _ _ h => h) (Or.inl ⟨by rfl, ?_⟩) hS0 ?_
        · intro w' hSw
          go_simp
        try simp only [Act.put, List.setIfInBounds_toArray, List.set_cons_zero, List.set_cons_succ]
        refine wpAnyH_take (i := 4) (v := .string (s.extract a b)) rfl (by kernel_rfl) (by kernel_rfl) (by kernel_rfl) (fun _ _ _ h => h) (Or.inl ⟨by rfl, ?_⟩) hS0 ?_
        · intro w' hSw
          go_simp
        try simp only [Act.put, List.setIfInBounds_toArray, List.set_cons_zero, List.set_cons_succ]
        refine wpAnyH_take (i := 5) (v := .int .i64 pl) rfl (by kernel_rfl) (by kernel_rfl) (by kernel_rfl) (fun _ _ _ h => h) (Or.inl ⟨by rfl, ?_⟩) hS0 ?_
        · intro w' hSw
          have c1 := hSw.cell q1 (fun e => by have e2 := Option.some.inj e; simp only at e2; omega)
          go_simp
        try simp only [Act.put, List.setIfInBounds_toArray, List.set_cons_zero, List.set_cons_succ]
        refine wpAnyH_take (i := 6) (v := .int .i64 a) rfl (by kernel_rfl) (by kernel_rfl) (by kernel_rfl) (fun _ _ _ h => h) (Or.inl ⟨by rfl, ?_⟩) hS0 ?_
        · intro w' hSw
          go_simp
        try simp only [Act.put, List.setIfInBounds_toArray, List.set_cons_zero, List.set_cons_succ]
        refine wpAnyH_take (i := 7) (v := .int .i64 (pl - (a : Int))) rfl (by kernel_rfl) (by kernel_rfl) (by kernel_rfl) (fun _ _ _ h => h) (Or.inl ⟨by rfl, ?_⟩) hS0 ?_
        · intro w' hSw
          go_simp
        try simp only [Act.put, List.setIfInBounds_toArray, List.set_cons_zero, List.set_cons_succ]
        refine wpAnyH_ready (rs := [8]) (by kernel_rfl) (by simp) ?_
        refine AllReadyH.cons rfl (fun K hK => ?_) AllReadyH.nil
        go_simp
        refine (utfUnitsAt_any _ _ _ (by rw [ByteArray.size_extract]; omega)).mono ?_
        rintro e w5 ⟨rfl, hb5⟩
        have hb6 : Below W.heap.size W w5 := (Below.refl W.heap.size W).drew.trans (hb5.mono (Nat.le_refl _))
        have hw3 : w.heap.size + 1 + 1 + 1 < W.heap.size := by omega
        have c30 : w5.cell? ⟨w.heap.size + 1 + 1 + 1, 0, none⟩ = some (.int .i64 pa) := (hb6.cell (p := ⟨w.heap.size + 1 + 1 + 1, 0, none⟩) hw3).trans q3
        have c31 : w5.cell? ⟨w.heap.size + 1 + 1 + 1, 1, none⟩ = some (.int .i64 pb) := (hb6.cell (p := ⟨w.heap.size + 1 + 1 + 1, 1, none⟩) hw3).trans r3
        have d30 : w5.frozen? ⟨w.heap.size + 1 + 1 + 1, 0, none⟩ = false := (hb6.frozen (p := ⟨w.heap.size + 1 + 1 + 1, 0, none⟩) hw3).trans f3
        have d31 : w5.frozen? ⟨w.heap.size + 1 + 1 + 1, 1, none⟩ = false := (hb6.frozen (p := ⟨w.heap.size + 1 + 1 + 1, 1, none⟩) hw3).trans g3
        simp only [hua]
        have hS5 : W.grownBy w5 (some B3) := ⟨hb6.os, hb6.tape, hb6.output, hb6.size, fun k hk _ => hb6.block k hk⟩
        refine hK.out _ _ hS5 (fun _ => ?_)
        clear hK K hS0
        try simp only [Act.put, List.setIfInBounds_toArray, List.set_cons_zero, List.set_cons_succ]
        refine wpAnyH_take (i := 9) (v := .agg #[.int .i64 pre.length, .int .i64 ua]) rfl (by kernel_rfl) (by kernel_rfl) (by kernel_rfl) (fun _ _ _ h => h) (Or.inl ⟨by rfl, ?_⟩) hS5 ?_
        · intro w' hSw
          go_simp
        try simp only [Act.put, List.setIfInBounds_toArray, List.set_cons_zero, List.set_cons_succ]
        refine wpAnyH_ready (rs := [10]) (by kernel_rfl) (by simp) ?_
        refine AllReadyH.cons rfl (fun K hK => ?_) AllReadyH.nil
        go_simp
        have hS6 : W.grownBy ((w5.setCell ⟨w.heap.size + 1 + 1 + 1, 0, none⟩ (.int .i64 pre.length)).setCell ⟨w.heap.size + 1 + 1 + 1, 1, none⟩ (.int .i64 ua)) (some B3) := by
          refine ⟨hS5.os, hS5.tape, hS5.output, ?_, fun k hk hne => ?_⟩
          · simp only [World.size_setCell]
            exact hS5.size
          · have hk3 : k ≠ w.heap.size + 1 + 1 + 1 := fun e => hne (by rw [e, hB3])
            rw [Below.heap_setCell _ _ _ _ (by exact hk3), Below.heap_setCell _ _ _ _ (by exact hk3)]
            exact hb6.block k hk
        refine hK.out _ _ hS6 (fun _ => ?_)
        clear hK K
        try simp only [Act.put, List.setIfInBounds_toArray, List.set_cons_zero, List.set_cons_succ]
        refine wpAnyH_done (by kernel_rfl) ?_ _
        exact ⟨⟨_, _, _, _, _, _, _, _, _, _, _, _, _, _, _, _, rfl⟩, w5, hb6, rfl⟩
      · rintro a' w' ⟨⟨x18, x19, x20, x21, x22, x23, x24, x25, x26, x27, x28, x29, x30, x31, x32, x33, rfl⟩, w1, hb1, rfl⟩
        have hw3 : w.heap.size + 1 + 1 + 1 < W.heap.size := by omega
        obtain ⟨w2, hw2⟩ : ∃ w2, (w1.setCell ⟨w.heap.size + 1 + 1 + 1, 0, none⟩ (.int .i64 pre.length)).setCell ⟨w.heap.size + 1 + 1 + 1, 1, none⟩ (.int .i64 ua) = w2 := ⟨_, rfl⟩
        have e0 : Own1 w2 w.heap.size (.string s) := by rw [← hw2]; exact ((Own1.below ⟨q0, f0⟩ hb1).otherA _ (by show w.heap.size ≠ w.heap.size + 1 + 1 + 1; omega) _).otherA _ (by show w.heap.size ≠ w.heap.size + 1 + 1 + 1; omega) _
        have e1 : Own1 w2 (w.heap.size + 1) (.int .i64 pl) := by rw [← hw2]; exact ((Own1.below ⟨q1, f1⟩ hb1).otherA _ (by show w.heap.size + 1 ≠ w.heap.size + 1 + 1 + 1; omega) _).otherA _ (by show w.heap.size + 1 ≠ w.heap.size + 1 + 1 + 1; omega) _
        have e2 : Own2 w2 (w.heap.size + 1 + 1) (.int .i64 0) (.int .i64 0) := by rw [← hw2]; exact ((q2.below hb1).otherA _ (by show w.heap.size + 1 + 1 ≠ w.heap.size + 1 + 1 + 1; omega) _).otherA _ (by show w.heap.size + 1 + 1 ≠ w.heap.size + 1 + 1 + 1; omega) _
        have e3 : Own2 w2 (w.heap.size + 1 + 1 + 1) (.int .i64 pre.length) (.int .i64 ua) := by rw [← hw2]; exact (Own2.below ⟨⟨q3, f3⟩, r3, g3⟩ hb1).set _ _
        have e4 : Own1 w2 (w.heap.size + 1 + 1 + 1 + 1) (.int .i64 pre.length) := by rw [← hw2]; exact ((Own1.below ⟨q4, f4⟩ hb1).otherA _ (by show w.heap.size + 1 + 1 + 1 + 1 ≠ w.heap.size + 1 + 1 + 1; omega) _).otherA _ (by show w.heap.size + 1 + 1 + 1 + 1 ≠ w.heap.size + 1 + 1 + 1; omega) _
        have k2 : KeepsOthers W w2 := by rw [← hw2]; exact ((keepsOthers_below hb1).trans (KeepsOthers.setCell _ _ _)).trans (KeepsOthers.setCell _ _ _)
        have x2 : BoxKept (w.heap.size + 1 + 1 + 1 + 1 + 1) W w2 := by
          have h5 := World.block_lt_of_cell? W _ q5.1
          rw [← hw2]
          exact ((BoxKept.below hb1 h5).trans (BoxKept.setCell _ _ _ (by show w.heap.size + 1 + 1 + 1 + 1 + 1 ≠ w.heap.size + 1 + 1 + 1; omega))).trans (BoxKept.setCell _ _ _ (by show w.heap.size + 1 + 1 + 1 + 1 + 1 ≠ w.heap.size + 1 + 1 + 1; omega))
        have e5 : Own1 w2 (w.heap.size + 1 + 1 + 1 + 1 + 1) (.string s) := by rw [← hw2]; exact ((q5.below hb1).otherA _ (by show w.heap.size + 1 + 1 + 1 + 1 + 1 ≠ w.heap.size + 1 + 1 + 1; omega) _).otherA _ (by show w.heap.size + 1 + 1 + 1 + 1 + 1 ≠ w.heap.size + 1 + 1 + 1; omega) _
        have b2 : Below w.heap.size w w2 := by
          rw [← hw2]
          exact ((hB.trans (hb1.mono (by omega))).setCell (p := ⟨w.heap.size + 1 + 1 + 1, 0, none⟩) (by show w.heap.size ≤ w.heap.size + 1 + 1 + 1; omega) _).setCell (p := ⟨w.heap.size + 1 + 1 + 1, 1, none⟩) (by show w.heap.size ≤ w.heap.size + 1 + 1 + 1; omega) _
        rw [hw2]
        clear hw2 q0 f0 q1 f1 q2 q3 f3 r3 g3 q4 f4
        obtain ⟨e4, g4⟩ := e4
        unfold lns at hlt
        gi_wp2
        have E4 := Own1.set ⟨e4, g4⟩ (.int .i64 ((pre.length : Int) + 1))
        refine ⟨k2.trans (KeepsOthers.setCell _ _ _), x2.trans (BoxKept.setCell _ _ _ (by simp)), ⟨e0.other (by omega) _, e1.other (by omega) _, e2.otherA _ (by show w.heap.size + 1 + 1 ≠ w.heap.size + 1 + 1 + 1 + 1; omega) _, ⟨_, _, e3.otherA _ (by show w.heap.size + 1 + 1 + 1 ≠ w.heap.size + 1 + 1 + 1 + 1; omega) _, Lib.hid ?_⟩, ?_, e5.other (by omega) _⟩, b2.setCell (p := ⟨_, 0, none⟩) (by show w.heap.size ≤ w.heap.size + 1 + 1 + 1 + 1; omega) _⟩
        · intro rest hrest
          rw [← hh.out (((a : Int), (b : Int)) :: rest) (by rw [← hrest]; simp [vals])]
          rw [atFrom, if_neg (by show ¬ ((a : Int) > pl); omega), Int.toNat_natCast, Int.toNat_natCast, hua, List.length_append]
          rfl
        · rw [List.length_append, List.length_singleton]
          exact E4
  case done =>
    rintro D ys W hD hys ⟨⟨q0, q1, ⟨⟨q2, f2⟩, r2, g2⟩, ⟨pa, pb, ⟨⟨q3, f3⟩, r3, g3⟩, hh⟩, q4, q5⟩, hB⟩ hK
    have hfin : (pa, pb) = atOf s R place := by rw [← hh.out [] (by rw [List.append_nil]; exact hys)]; rfl
    have hu35 := Tryd.underlying35
    gi_wp2
    obtain ⟨W3, hW3⟩ : ∃ W3, (W.setCell ⟨w.heap.size + 1 + 1, 0, none⟩ (.int .i64 pa)).setCell ⟨w.heap.size + 1 + 1, 1, none⟩ (.int .i64 pb) = W3 := ⟨_, rfl⟩
    have hKO : KeepsOthers W W3 := by rw [← hW3]; exact (KeepsOthers.setCell _ _ _).trans (KeepsOthers.setCell _ _ _)
    have hK' := hKO.same D _ hK rfl
    have Q2 := Own2.set ⟨⟨q2, f2⟩, r2, g2⟩ (.int .i64 pa) (.int .i64 pb)
    have hB3 := (hB.setCell (p := ⟨w.heap.size + 1 + 1, 0, none⟩) (by show w.heap.size ≤ w.heap.size + 1 + 1; omega) (.int .i64 pa)).setCell (p := ⟨w.heap.size + 1 + 1, 1, none⟩) (by show w.heap.size ≤ w.heap.size + 1 + 1; omega) (.int .i64 pb)
    rw [hW3] at Q2 hB3 ⊢
    refine ⟨by simp, .inl ⟨_, _, rfl, run_takeDeferred hK', ?_⟩⟩
    have hput : ∀ r, some D = some r → ∃ o : Obj, W3.heap[r]? = some o ∧ o.isCells = false := fun r e => by cases e; exact ⟨_, hK', rfl⟩
    have z := Q2.kept (grownBy_putObj' _ D (.deferred none)) hput
    have z1 := z.1.1
    have z2 := z.2.1
    refine ⟨.agg #[.int .i64 pa, .int .i64 pb], ?_, by rw [← hfin], hB3.trans (belowK_b (w := w) (Nat.le_refl _) _ D _ _ (by simp at hD; omega) hK' rfl rfl)⟩
    simp [results, Tryd.f11, go_sem, z1, z2]
  case stop =>
    rintro D c pre W hD hpre ⟨⟨rfl, ⟨⟨q2, f2⟩, r2, g2⟩, pa, pb, ⟨⟨q3, f3⟩, r3, g3⟩, hh⟩, hB⟩ hK
    have hfin : (pa, pb) = atOf s R place := by obtain ⟨z, hz⟩ := hpre; exact hh.out z hz
    gi_wp2
    obtain ⟨W3, hW3⟩ : ∃ W3, (W.setCell ⟨w.heap.size + 1 + 1, 0, none⟩ (.int .i64 pa)).setCell ⟨w.heap.size + 1 + 1, 1, none⟩ (.int .i64 pb) = W3 := ⟨_, rfl⟩
    have hKO : KeepsOthers W W3 := by rw [← hW3]; exact (KeepsOthers.setCell _ _ _).trans (KeepsOthers.setCell _ _ _)
    have hK' := hKO.same D _ hK rfl
    have Q2 := Own2.set ⟨⟨q2, f2⟩, r2, g2⟩ (.int .i64 pa) (.int .i64 pb)
    have hB3 := (hB.setCell (p := ⟨w.heap.size + 1 + 1, 0, none⟩) (by show w.heap.size ≤ w.heap.size + 1 + 1; omega) (.int .i64 pa)).setCell (p := ⟨w.heap.size + 1 + 1, 1, none⟩) (by show w.heap.size ≤ w.heap.size + 1 + 1; omega) (.int .i64 pb)
    rw [hW3] at Q2 hB3 ⊢
    refine ⟨by simp, .inl ⟨_, _, rfl, run_takeDeferred hK', ?_⟩⟩
    have hput : ∀ r, some D = some r → ∃ o : Obj, W3.heap[r]? = some o ∧ o.isCells = false := fun r e => by cases e; exact ⟨_, hK', rfl⟩
    have z := Q2.kept (grownBy_putObj' _ D (.deferred none)) hput
    have z1 := z.1.1
    have z2 := z.2.1
    refine ⟨.agg #[.int .i64 pa, .int .i64 pb], ?_, by rw [← hfin], hB3.trans (belowK_b (w := w) (Nat.le_refl _) _ D _ _ (by simp at hD; omega) hK' rfl rfl)⟩
    simp [results, Tryd.f11, go_sem, z1, z2]

end Go.Proofs.YtppjpkkkogmhfaaDoor
