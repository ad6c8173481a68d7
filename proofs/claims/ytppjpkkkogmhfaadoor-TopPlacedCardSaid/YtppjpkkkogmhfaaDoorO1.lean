/- This text proves a part of emendtop.TopPlaced: how the arguments are read. Its conditions stand ahead of each theorem. -/
import Derived.Test.YtppjpkkkogmhfaaDoorM1
import Derived.ProofKit
import Derived.Deep.Slices
namespace Go.Proofs.YtppjpkkkogmhfaaDoor
open Go.ChangeShapes Go.WideShapes Go.ChangeAt Go.RowKit Go.Deep

theorem cells5 : Tryd.prog.cellsOf 5 = 1 := by kernel_rfl
theorem cells33 : Tryd.prog.cellsOf 33 = 5 := by kernel_rfl
theorem cells24 : Tryd.prog.cellsOf 24 = 1 := by kernel_rfl
theorem cells22 : Tryd.prog.cellsOf 22 = 1 := by kernel_rfl
theorem cells4 : Tryd.prog.cellsOf 4 = 1 := by kernel_rfl

theorem wf_u8 {n : Int} (h : (Lit.int .u8 n).wf = true) : 0 ≤ n ∧ n < 256 := by
  unfold Lit.wf at h
  rw [Bool.and_eq_true] at h
  have h1 := of_decide_eq_true h.1
  have h2 := of_decide_eq_true h.2
  have e1 : IntKind.min .u8 = 0 := by decide
  have e2 : IntKind.max .u8 = 255 := by decide
  rw [e1] at h1
  rw [e2] at h2
  omega
theorem wf_u16 {n : Int} (h : (Lit.int .u16 n).wf = true) : 0 ≤ n ∧ n < 65536 := by
  unfold Lit.wf at h
  rw [Bool.and_eq_true] at h
  have h1 := of_decide_eq_true h.1
  have h2 := of_decide_eq_true h.2
  have e1 : IntKind.min .u16 = 0 := by decide
  have e2 : IntKind.max .u16 = 65535 := by decide
  rw [e1] at h1
  rw [e2] at h2
  omega

theorem spot_none {w : World} {a : Addr} {v : Value} (h : w.cell? a = some v) : a = ⟨a.block, a.off, none⟩ := by
  obtain ⟨b, o, s⟩ := a
  cases s with
  | none => rfl
  | some s =>
    simp [World.cell?] at h
    split at h <;> simp at h

section
variable {H : Type} {enc : TypeId × Value → H} {w : World} {base : Nat} {spare : Nat → Bool} {held : Bool}

theorem u8_of_trod {fuel : Nat} {v : Value} {x : DataW H × List MemPlace} (h : DataW.trod enc Tryd.prog w base spare held fuel 22 [v] = some x) :
    ∃ L, U8At w v L ∧ (∀ y ∈ L, 0 ≤ y ∧ y < 256) ∧ L.length ≤ maxLen := by
  rcases open_ints Tryd.underlying22 Tryd.underlying5 cells5 h with ⟨hcs, hx⟩ | ⟨a, len, cap, zs, hcs, _, hl, hm, hz, hx, hcell, hwz⟩
  · simp at hcs
    exact ⟨[], ⟨none, 0, hcs, Nat.zero_le _, fun j hj => absurd hj (Nat.not_lt_zero _)⟩, by simp, Nat.zero_le _⟩
  · simp at hcs
    have hlz : len ≤ zs.length := by rw [hz]; split <;> omega
    refine ⟨zs.take len, ⟨some a, cap, by rw [hcs, List.length_take, Nat.min_eq_left hlz], by rw [List.length_take]; omega, fun j hj => ?_⟩, fun y hy => wf_u8 (hwz y (List.mem_of_mem_take hy)), by rw [List.length_take]; omega⟩
    rw [List.length_take] at hj
    have h0 := hcell 0 (by omega)
    have hj' := hcell j (by omega)
    have e : a = ⟨a.block, a.off, none⟩ := by
      have : a.add 0 = a := by simp [Addr.add]
      rw [this] at h0
      exact spot_none h0
    refine ⟨a.block, a.off, by rw [← e], ?_⟩
    rw [e, addr_add] at hj'
    rw [hj', List.getElem_take, List.getD_eq_getElem?_getD, List.getElem?_eq_getElem (by omega)]
    rfl

theorem int_of_trod {fuel : Nat} {t : TypeId} {k : IntKind} {v : Value} {x : DataW H × List MemPlace} (ht : Tryd.prog.underlying t = some (.int k)) (h : DataW.trod enc Tryd.prog w base spare held fuel t [v] = some x) : ∃ n, v = .int k n ∧ (Lit.int k n).wf = true := by
  obtain ⟨n, h1, _, h2⟩ := DataW.trod_int ht h
  simp at h1
  exact ⟨n, h1, h2⟩

theorem bool_of_trod {fuel : Nat} {v : Value} {x : DataW H × List MemPlace} (h : DataW.trod enc Tryd.prog w base spare held fuel 4 [v] = some x) : ∃ b, v = .bool b := by
  obtain ⟨b, h1, _⟩ := DataW.trod_bool Tryd.underlying4 h
  simp at h1
  exact ⟨b, h1⟩

instance : Inhabited Ty := ⟨⟨0, 0, [], 0, false⟩⟩

def TyOk (x : Ty) : Prop := (0 ≤ x.frm ∧ x.frm < 65536) ∧ (0 ≤ x.til ∧ x.til < 65536) ∧ (0 ≤ x.be ∧ x.be < 256) ∧ (∀ y ∈ x.text, 0 ≤ y ∧ y < 256)

set_option maxRecDepth 100000 in
theorem ty_of_trod {fuel : Nat} {a : Addr} {cs : List Value} {x : DataW H × List MemPlace} (hc : w.cells? base a 5 = some cs) (h : DataW.trod enc Tryd.prog w base spare held fuel 33 cs = some x) :
    ∃ (t : Ty), a = ⟨a.block, a.off, none⟩ ∧ TyAt w a.block a.off t ∧ TyOk t := by
  obtain ⟨_, hlen, hcell⟩ := World.cells?_some hc
  obtain ⟨xs, k, _, _, _, hxl, hf⟩ := DataW.trod_struct Tryd.underlying33 h
  match cs, hlen with
  | [v0, v1, v2, v3, v4], _ =>
    match xs, hxl with
    | [y0, y1, y2, y3, y4], _ =>
      have g0 := hf 0 _ rfl
      have g1 := hf 1 _ rfl
      have g2 := hf 2 _ rfl
      have g3 := hf 3 _ rfl
      have g4 := hf 4 _ rfl
      simp [cells24, cells22, cells5, cells4] at g0 g1 g2 g3 g4
      obtain ⟨n0, rfl, b0⟩ := int_of_trod Tryd.underlying24 g0
      obtain ⟨n1, rfl, b1⟩ := int_of_trod Tryd.underlying24 g1
      obtain ⟨T, hT, bT, _⟩ := u8_of_trod g2
      obtain ⟨n3, rfl, b3⟩ := int_of_trod Tryd.underlying5 g3
      obtain ⟨wh, rfl⟩ := bool_of_trod g4
      have e : a = ⟨a.block, a.off, none⟩ := by
        have h0 := hcell 0 (by omega)
        have : a.add 0 = a := by simp [Addr.add]
        rw [this] at h0
        exact spot_none h0
      have hc' : ∀ i (hi : i < 5), w.cell? ⟨a.block, a.off + i, none⟩ = [Value.int .u16 n0, .int .u16 n1, v2, .int .u8 n3, .bool wh][i]? := by
        intro i hi
        have := hcell i hi
        rw [e, addr_add] at this
        exact this
      exact ⟨⟨n0, n1, T, n3, wh⟩, e, ⟨hc' 0 (by omega), hc' 1 (by omega), ⟨v2, hc' 2 (by omega), hT⟩, hc' 3 (by omega), hc' 4 (by omega)⟩, wf_u16 b0, wf_u16 b1, wf_u8 b3, bT⟩

theorem l_of_trod {fuel : Nat} {v : Value} {x : DataW H × List MemPlace} (h : DataW.trod enc Tryd.prog w base spare held fuel 23 [v] = some x) :
    ∃ L, LAt w v L ∧ (∀ y ∈ L, TyOk y) ∧ L.length ≤ maxLen := by
  rcases open_slice Tryd.underlying23 h with ⟨hcs, hx⟩ | ⟨a, len, cap, m, n, D, Pl, hcs, _, hl, hm, hmm, hx, hcell⟩
  · simp at hcs
    exact ⟨[], ⟨none, 0, hcs, fun j hj => absurd hj (Nat.not_lt_zero _)⟩, by simp, Nat.zero_le _⟩
  · simp at hcs
    have hlm : len ≤ m := by rw [hmm]; split <;> omega
    have each : ∀ i, i < len → ∃ t : Ty, a.add (i * 5) = ⟨(a.add (i * 5)).block, (a.add (i * 5)).off, none⟩ ∧ TyAt w (a.add (i * 5)).block (a.add (i * 5)).off t ∧ TyOk t := by
      intro i hi
      obtain ⟨cs', h1, h2⟩ := hcell i (by omega)
      rw [cells33] at h1
      exact ty_of_trod h1 h2
    obtain ⟨T, hT⟩ := choose_lt each
    refine ⟨(List.range len).map T, ⟨some a, cap, by rw [hcs]; simp, fun j hj => ?_⟩, fun y hy => ?_, by simp; omega⟩
    · have hj2 : j < len := by simpa using hj
      have e0 : a = ⟨a.block, a.off, none⟩ := by
        have h0 := (hT 0 (by omega)).1
        have : a.add (0 * 5) = a := by simp [Addr.add]
        rw [this] at h0
        exact h0
      refine ⟨a.block, a.off, by rw [← e0], ?_⟩
      have h2 := (hT j hj2).2.1
      have e1 : a.add (j * 5) = ⟨a.block, a.off + j * 5, none⟩ := by
        conv => lhs; rw [e0]
        exact addr_add _ _ _
      rw [e1] at h2
      simpa using h2
    · obtain ⟨i, hi, rfl⟩ := List.mem_map.1 hy
      exact (hT i (List.mem_range.1 hi)).2.2
end

end Go.Proofs.YtppjpkkkogmhfaaDoor
