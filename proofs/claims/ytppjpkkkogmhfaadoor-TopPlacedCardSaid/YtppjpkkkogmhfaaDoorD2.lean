/- This text proves a part of emendtop.TopPlaced: the runes of some bytes: function 4, for at most 1000 bytes. Its conditions stand ahead of each theorem. -/
import Derived.Test.YtppjpkkkogmhfaaDoorD1
import Derived.Laws.AppendOwnNone
namespace Go.Proofs.YtppjpkkkogmhfaaDoor
open Go.RowKit Go.Shelf

/-- a slice of bytes, as it is read -/
def U8At (w : World) (v : Value) (L : List Int) : Prop :=
  ∃ (A : Option Addr) (cap : Nat), v = .slice A L.length cap ∧ L.length ≤ cap ∧ ∀ j (h : j < L.length), ∃ b o, A = some ⟨b, o, none⟩ ∧ w.cell? ⟨b, o + j, none⟩ = some (.int .u8 L[j])

theorem U8At.below {w w' : World} {v : Value} {R : List Int} (h : U8At w v R) (hb : Below w.heap.size w w') : U8At w' v R := by
  obtain ⟨A, cap, rfl, hc, hj⟩ := h
  refine ⟨A, cap, rfl, hc, fun j h => ?_⟩
  obtain ⟨b, o, hA, hcell⟩ := hj j h
  exact ⟨b, o, hA, (hb.cell (p := ⟨b, o + j, none⟩) (World.block_lt_of_cell? w _ hcell)).trans hcell⟩

theorem run_hi8 {w : World} {A : Option Addr} {n cap k : Nat} (h : k ≤ cap) :
    (Instr.slice 22 (.slice A n cap) none (some (.int .i64 k)) none).run Tryd.prog w = .ok (.slice A k cap) w := by
  have e : A.map (fun x : Addr => x.add 0) = A := by cases A <;> simp [Addr.add]
  simp [Instr.slice, Instr.sliceBounds, Instr.sliceBound, asIntOf, run_underlying Tryd.underlying22, Sem.run, Tryd.sizeOf5, h, e]

theorem U8At.hi {w : World} {v : Value} {R : List Int} (h : U8At w v R) (k : Nat) (hk : k ≤ R.length) :
    ∃ v', U8At w v' (R.take k) ∧ ∀ W : World, (Instr.slice 22 v none (some (.int .i64 k)) none).run Tryd.prog W = .ok v' W := by
  obtain ⟨A, cap, rfl, hc, hj⟩ := h
  refine ⟨.slice A k cap, ⟨A, cap, by rw [List.length_take, Nat.min_eq_left hk], by rw [List.length_take]; omega, fun j h => ?_⟩, fun W => run_hi8 (by omega)⟩
  rw [List.length_take] at h
  obtain ⟨b, o, hA, hcell⟩ := hj j (by omega)
  exact ⟨b, o, hA, by rw [hcell, List.getElem_take]⟩

theorem U8At.len {w : World} {v : Value} {R : List Int} (h : U8At w v R) (W : World) (ty : TypeId) :
    (Builtin.len_ #[22] ty #[v]).run Tryd.prog W = .ok (.int .i64 R.length) W := by
  obtain ⟨A, cap, rfl, hc, hj⟩ := h
  simp [Builtin.len_, run_underlying Tryd.underlying22, Sem.run, goInt]

theorem U8At.index {w : World} {v : Value} {R : List Int} (h : U8At w v R) (j : Nat) (hj : j < R.length) :
    ∃ b o, w.cell? ⟨b, o, none⟩ = some (.int .u8 R[j]) ∧ ∀ W : World, (Instr.indexAt 22 v (.int .i64 j)).run Tryd.prog W = .ok (.pointer (some ⟨b, o, none⟩)) W := by
  obtain ⟨A, cap, rfl, hc, hjj⟩ := h
  obtain ⟨b, o, rfl, hcell⟩ := hjj j hj
  refine ⟨b, o + j, hcell, fun W => ?_⟩
  have e : (⟨b, o, none⟩ : Addr).add j = ⟨b, o + j, none⟩ := by
    unfold Addr.add
    split
    · rename_i h0; subst h0; rfl
    · rfl
  simp [Instr.indexAt, asIntOf, run_underlying Tryd.underlying22, Sem.run, Tryd.sizeOf5, hj, e]

/-- the runes, as cells -/
abbrev rc (R : List Int) : List Value := R.map (Value.int .i32)

theorem RunesAt.of_own {w : World} {base : Nat} {v : Value} {R : List Int} (h : w.ownsRow base 21 1 v R.length (rc R)) : RunesAt w v R := by
  rcases h.2 with ⟨rfl, hn⟩ | ⟨g, cap, cur, rfl, _, hg, hnc, hcm, hcs, htake⟩
  · exact ⟨none, 0, by rw [hn], by omega, fun _ => rfl, fun j hj => by omega⟩
  · refine ⟨some ⟨g, 0, none⟩, cap, rfl, hnc, fun e => by simp at e, fun j hj => ⟨g, 0, rfl, ?_, cur, _, hg⟩⟩
    have := h.cellAt j (by omega)
    rw [Nat.zero_add, this]
    simp [rc, hj]

theorem addr_add (b o j : Nat) : (⟨b, o, none⟩ : Addr).add j = ⟨b, o + j, none⟩ := by
  unfold Addr.add
  split
  · rename_i h0; subst h0; rfl
  · rfl

theorem oneCell_i32 (R : List Int) : ∀ u ∈ rc R, u.oneCell' = true := by
  intro u hu
  obtain ⟨x, _, rfl⟩ := List.mem_map.1 hu
  rfl

theorem runeInfo : (Tryd.prog.info? 21).map (fun i => (i.zero, i.size, i.bytes)) = some (some (.int .i32 0), 1, 4) := by kernel_rfl

theorem append_runes {ops : Array Oper} {rest : List Oper} {o : Oper} {a : Act} {w : World} {Q : Exit → Act → World → Prop} (hgd : o.guard = none) (s x : Operand)
    (ho : o.op = .call { callee := .builtin .append, args := #[s, x], argTypes := #[25, 25] })
    (base : Nat) (v src : Value) (S R : List Int) (hs : a.eval s = v) (hown : w.ownsRow base 21 1 v S.length (rc S)) (hx : a.eval x = src) (hsrc : RunesAt w src R)
    (hl : S.length + R.length ≤ 1000000) (hbase : base ≤ w.heap.size)
    (h : ∀ v' w', w'.ownsRow base 21 1 v' (S ++ R).length (rc (S ++ R)) → w.grownBy w' v.ownBlock → wpList Tryd.prog ops Q rest (a.put o.dst v') w') : wpList Tryd.prog ops Q (o :: rest) a w := by
  obtain ⟨i0, hi, hz0, hz1, hz2⟩ := info_parts runeInfo
  obtain ⟨A, cap, rfl, hc, hn, hj⟩ := hsrc
  cases A with
  | none =>
    have hcap := hn rfl
    have hR : R = [] := List.length_eq_zero_iff.1 (by omega)
    subst hcap
    subst hR
    refine wpList_append_own_none hgd s x 25 ho base 21 i0 1 Tryd.underlying25 hi v S.length (rc S) hs hown hx (h v w ?_ (World.grownBy.refl _ _))
    rw [List.append_nil]
    exact hown
  | some ad =>
    refine wpList_append_own w hgd s x 25 ho base 21 i0 (.int .i32 0) 1 4 Tryd.underlying25 hi hz0 hz1 hz2 rfl (by decide) v S.length (rc S) hs hown ad R.length cap (rc R) hx (by simp [rc]) ?_ (oneCell_i32 R) (by unfold maxLen; omega) (by omega) hbase ?_
    · intro j u hju
      have hjl : j < R.length := by
        have := (List.getElem?_eq_some_iff.1 hju).1
        simpa [rc] using this
      obtain ⟨b, o', hA, hcell, _⟩ := hj j hjl
      cases hA
      rw [addr_add, hcell]
      simp [rc, hjl] at hju
      rw [hju]
    · intro v' w' h2 h3 _
      exact h v' w' (by rw [List.length_append]; simpa [rc] using h2) h3

theorem RunesAt.one (W : World) (c : Int) : RunesAt (W.alloc (.cells #[.int .i32 c] 21)) (.slice (some ⟨W.heap.size, 0, none⟩) 1 1) [c] := by
  refine ⟨some ⟨W.heap.size, 0, none⟩, 1, rfl, Nat.le_refl _, fun e => (by cases e), fun j hj => ⟨_, _, rfl, ?_, _, _, World.alloc_heap_new W _⟩⟩
  have : j = 0 := by simpa using hj
  subst this
  have h := World.alloc_heap_new W (.cells #[.int .i32 c] 21)
  simp only [World.cell?, h]
  rfl

theorem RunesAt.one' (W : World) (c : Int) (b : Nat) (h : b = W.heap.size) : RunesAt (W.alloc (.cells #[.int .i32 c] 21)) (.slice (some ⟨b, 0, none⟩) 1 1) [c] := by
  subst h
  exact RunesAt.one W c

/-- the rune of a byte -/
def pick (n : Int) : Int := if n % 6 = 0 then 97 else if n % 6 = 1 then 98 else if n % 6 = 2 then 233 else if n % 6 = 3 then 128512 else if n % 6 = 4 then 10 else 8364

theorem pick_in (n : Int) : InA (pick n) := by
  unfold pick InA
  repeat' split
  all_goals simp

theorem picks_in (L : List Int) : ∀ c ∈ L.map pick, InA c := by
  intro c hc
  obtain ⟨n, _, rfl⟩ := List.mem_map.1 hc
  exact pick_in n

set_option maxRecDepth 1000000 in
set_option maxHeartbeats 4000000 in
theorem plainRunes_any (v : Value) (L : List Int) (w : World) (hL : ∀ x ∈ L, 0 ≤ x ∧ x < 256) (hl : L.length ≤ 1000) (h : U8At w v L) :
    Calls Tryd.prog 4 #[v] w fun e w' => ∃ v', e = .returned v' ∧ RunesAt w' v' (L.map pick) ∧ Below w.heap.size w w' := by
  have hlen := h.len
  have H := Lib.hid h
  have HL := Lib.hid hL
  clear h hL
  go_enter Tryd.func4, Tryd.ntmps4
  go_wp2
  go_loopw [3, 8] (fun v3 iv wr => ∃ k : Nat, k ≤ L.length ∧ iv = .int .i64 k ∧ Hid (wr.ownsRow w.heap.size 21 1 v3 ((L.take k).map pick).length (rc ((L.take k).map pick))) ∧ Below w.heap.size w wr) (fun _ iv _ => L.length - (intOf iv).toNat)
  case atStart => exact ⟨0, Nat.zero_le _, rfl, Lib.hid (World.ownsRow_nil _ _ _ _), Below.refl _ _⟩
  case round =>
    obtain ⟨k, hk, rfl, hown, hB⟩ := hrel
    by_cases hlt : k < L.length
    · obtain ⟨b, o, hcell, hix⟩ := (H.out.below hB).index k hlt
      obtain ⟨n, hn⟩ : ∃ n, L[k] = n := ⟨_, rfl⟩
      have hnb := HL.out _ (List.getElem_mem hlt)
      rw [hn] at hcell hnb
      have hnext : (L.take (k + 1)).map pick = (L.take k).map pick ++ [pick n] := by rw [take_succ_at L k hlt, List.map_append, hn]; rfl
      have HN := Lib.hid hnext
      have Hn := Lib.hid hn
      have hsz := hB.size
      clear hnext hn
      obtain ⟨r, hr⟩ : ∃ r, Int.tmod n 6 = r := ⟨_, rfl⟩
      have hr2 : n % 6 = r := by rw [← hr, Int.tmod_eq_emod_of_nonneg hnb.1]
      have hr3 : 0 ≤ r ∧ r < 6 := by omega
      have hr4 : r = 0 ∨ r = 1 ∨ r = 2 ∨ r = 3 ∨ r = 4 ∨ r = 5 := by omega
      clear hr3
      have Hr2 := Lib.hid hr2
      clear hr2
      have Hl := Lib.hid hl
      have hpk : ∃ p, pick n = p ∧ (r = 0 ∧ p = 97 ∨ r = 1 ∧ p = 98 ∨ r = 2 ∧ p = 233 ∨ r = 3 ∧ p = 128512 ∨ r = 4 ∧ p = 10 ∨ r = 5 ∧ p = 8364) := by
        refine ⟨_, rfl, ?_⟩
        unfold pick
        rw [Hr2.out]
        rcases hr4 with rfl | rfl | rfl | rfl | rfl | rfl <;> simp
      obtain ⟨p, hp, hpk⟩ := hpk
      rw [hp] at HN
      clear hr4 hp
      have hl2 : ((L.take k).map pick).length + [p].length ≤ 1000000 := by
        have := Hl.out
        rw [List.length_map, List.length_take, List.length_singleton]
        omega
      have Hl2 := Lib.hid hl2
      clear hl2
      rcases hpk with ⟨rfl, rfl⟩ | ⟨rfl, rfl⟩ | ⟨rfl, rfl⟩ | ⟨rfl, rfl⟩ | ⟨rfl, rfl⟩ | ⟨rfl, rfl⟩
      all_goals
        go_wp2_with (first
          | (at_builtin; refine append_runes rfl _ _ rfl w.heap.size _ (.slice (some ⟨wr.heap.size + 1, 0, none⟩) 1 1) ((L.take k).map pick) [_] rfl ((hown.out.alloc _).alloc _) rfl (RunesAt.one' _ _ _ (by simp)) Hl2.out (by simp; omega) ?_; intro v1 w1 hown1 hg1)
          | go_in)
        go_roundw
        case rel =>
          refine ⟨k + 1, hlt, by simp, Lib.hid ?_, ((hB.alloc hsz _).alloc (by simp; omega) _).grown hg1 (by simp; omega) (fun j hj => (hown.out.lt j hj).1)⟩
          rw [HN.out]
          exact hown1
        case measure => simp only [intOf]; omega
    · have hkl : k = L.length := by omega
      subst hkl
      rw [List.take_length] at hown
      go_wp2
      go_ret
      exact ⟨_, rfl, RunesAt.of_own hown.out, hB⟩

end Go.Proofs.YtppjpkkkogmhfaaDoor
