/- This text proves a part of emendtop.TopPlaced: how typed changes lie in memory, and what they mean. Its conditions stand ahead of each theorem. -/
import Derived.Test.YtppjpkkkogmhfaaDoorC8
import Derived.Test.YtppjpkkkogmhfaaDoorD2
import Derived.Test.YtppjpkkkogmhfaaDoorL3
namespace Go.Proofs.YtppjpkkkogmhfaaDoor
open Go.RowKit Go.Shelf

/-- what is typed in -/
structure Ty where
  frm : Int
  til : Int
  text : List Int
  be : Int
  whole : Bool

structure TyAt (w : World) (b o : Nat) (x : Ty) : Prop where
  c0 : w.cell? ⟨b, o, none⟩ = some (.int .u16 x.frm)
  c1 : w.cell? ⟨b, o + 1, none⟩ = some (.int .u16 x.til)
  c2 : ∃ tv, w.cell? ⟨b, o + 2, none⟩ = some tv ∧ U8At w tv x.text
  c3 : w.cell? ⟨b, o + 3, none⟩ = some (.int .u8 x.be)
  c4 : w.cell? ⟨b, o + 4, none⟩ = some (.bool x.whole)

theorem TyAt.below {w w' : World} {b o : Nat} {x : Ty} (h : TyAt w b o x) (hb : Below w.heap.size w w') : TyAt w' b o x := by
  have hlt := World.block_lt_of_cell? w _ h.c0
  have hc : ∀ i, w'.cell? ⟨b, i, none⟩ = w.cell? ⟨b, i, none⟩ := fun i => hb.cell (p := ⟨b, i, none⟩) hlt
  obtain ⟨tv, h1, h2⟩ := h.c2
  exact ⟨(hc _).trans h.c0, (hc _).trans h.c1, ⟨tv, (hc _).trans h1, h2.below hb⟩, (hc _).trans h.c3, (hc _).trans h.c4⟩

/-- a slice of what is typed in -/
def LAt (w : World) (v : Value) (L : List Ty) : Prop :=
  ∃ (A : Option Addr) (cap : Nat), v = .slice A L.length cap ∧ ∀ j (h : j < L.length), ∃ b o, A = some ⟨b, o, none⟩ ∧ TyAt w b (o + j * 5) L[j]

theorem LAt.below {w w' : World} {v : Value} {L : List Ty} (h : LAt w v L) (hb : Below w.heap.size w w') : LAt w' v L := by
  obtain ⟨A, cap, rfl, hj⟩ := h
  refine ⟨A, cap, rfl, fun j h => ?_⟩
  obtain ⟨b, o, hA, ht⟩ := hj j h
  exact ⟨b, o, hA, ht.below hb⟩

theorem LAt.len {w : World} {v : Value} {L : List Ty} (h : LAt w v L) (W : World) (ty : TypeId) :
    (Builtin.len_ #[23] ty #[v]).run Tryd.prog W = .ok (.int .i64 L.length) W := by
  obtain ⟨A, cap, rfl, hj⟩ := h
  simp [Builtin.len_, run_underlying Tryd.underlying23, Sem.run, goInt]

theorem LAt.index {w : World} {v : Value} {L : List Ty} (h : LAt w v L) (j : Nat) (hj : j < L.length) :
    ∃ b o, TyAt w b o L[j] ∧ ∀ W : World, (Instr.indexAt 23 v (.int .i64 j)).run Tryd.prog W = .ok (.pointer (some ⟨b, o, none⟩)) W := by
  obtain ⟨A, cap, rfl, hjj⟩ := h
  obtain ⟨b, o, rfl, ht⟩ := hjj j hj
  refine ⟨b, o + j * 5, ht, fun W => ?_⟩
  simp [Instr.indexAt, asIntOf, run_underlying Tryd.underlying23, Sem.run, Tryd.sizeOf33, hj, addr_add]

theorem RunesAt.grown {w w' : World} {v : Value} {R : List Int} {row : Option Nat} (h : RunesAt w v R) (hg : w.grownBy w' row) (hrow : ∀ k, row = some k → ∀ cs fz, w.heap[k]? ≠ some (.cells cs 21 fz)) : RunesAt w' v R := by
  obtain ⟨A, cap, rfl, hc, hn, hj⟩ := h
  refine ⟨A, cap, rfl, hc, hn, fun j h => ?_⟩
  obtain ⟨b, o, hA, hcell, cs, fz, hbl⟩ := hj j h
  have hlt := World.block_lt_of_cell? w _ hcell
  have hne : some b ≠ row := fun e => hrow b e.symm cs fz hbl
  exact ⟨b, o, hA, hg.cell hcell hne, cs, fz, (hg.block b hlt hne).trans hbl⟩

theorem grownBy_putObj (W : World) (l : Nat) (o : Obj) : W.grownBy (W.putObj l o) (some l) := by
  refine ⟨rfl, rfl, rfl, by simp [World.putObj], fun k hk hne => ?_⟩
  have : l ≠ k := fun e => hne (by rw [e])
  simp [World.putObj, this]

theorem DocsAt.grown {w w' : World} {d m : Nat} {es : Array MapEntry} {clk : Nat} {row : Option Nat} (h : DocsAt w d m es clk) (hg : w.grownBy w' row) (hd : some d ≠ row) (hm : some m ≠ row) : DocsAt w' d m es clk :=
  ⟨hg.cell h.cell hd, (hg.block m (Array.getElem?_eq_some_iff.1 h.map).1 hm).trans h.map⟩

theorem DocsAt.put {w : World} {d m : Nat} {es : Array MapEntry} {clk : Nat} (h : DocsAt w d m es clk) (es' : Array MapEntry) (clk' : Nat) : DocsAt (w.putObj m (.map es' clk')) d m es' clk' := by
  have hne : d ≠ m := by
    intro e
    have h1 := h.cell
    rw [e] at h1
    simp [World.cell?, h.map] at h1
  have hlt := (Array.getElem?_eq_some_iff.1 h.map).1
  refine ⟨(grownBy_putObj w m _).cell h.cell (by simpa using hne), ?_⟩
  simp [World.putObj, hlt]

/-- a change, as cells -/
def chgCells (x : Chg) : List Value := [.bool x.whole, .int .i64 x.l1, .int .i64 x.c1, .int .i64 x.l2, .int .i64 x.c2, .string (runesBytes x.put)]

theorem chgCells_get : ∀ (l : List Chg) (j : Nat) (h : j < l.length) (i : Nat), i < 6 → (l.flatMap chgCells)[j * 6 + i]? = (chgCells l[j])[i]?
  | [], j, h, _, _ => absurd h (Nat.not_lt_zero _)
  | x :: l, 0, _, i, hi => by
    rw [List.flatMap_cons, Nat.zero_mul, Nat.zero_add, List.getElem?_append_left (by exact hi)]
    rfl
  | x :: l, j + 1, h, i, hi => by
    rw [List.flatMap_cons, List.getElem?_append_right (by show 6 ≤ _; omega)]
    have e : (j + 1) * 6 + i - (chgCells x).length = j * 6 + i := by show _ - 6 = _; omega
    rw [e, chgCells_get l j (by simpa using h) i hi]
    rfl

theorem chgCells_len : ∀ l : List Chg, (l.flatMap chgCells).length = l.length * 6
  | [] => rfl
  | x :: l => by rw [List.flatMap_cons, List.length_append, chgCells_len l, List.length_cons]; show 6 + _ = _; omega

theorem chgs_at {w : World} {base g cap : Nat} {l : List Chg} (h : w.ownsRow base 39 6 (.slice (some ⟨g, 0, none⟩) l.length cap) l.length (l.flatMap chgCells)) (j : Nat) (hj : j < l.length) : ChgAt w g (0 + j * 6) l[j] := by
  have hc : ∀ i, i < 6 → w.cell? ⟨g, 0 + j * 6 + i, none⟩ = (chgCells l[j])[i]? := fun i hi => by
    rw [Nat.zero_add, h.cellAt (j * 6 + i) (by omega), chgCells_get l j hj i hi]
  exact ⟨hc 0 (by omega), hc 1 (by omega), hc 2 (by omega), hc 3 (by omega), hc 4 (by omega), hc 5 (by omega)⟩

theorem chgInfo : (Tryd.prog.info? 39).map (fun i => (i.zero, i.size, i.bytes)) = some (some (.agg #[.bool false, .int .i64 0, .int .i64 0, .int .i64 0, .int .i64 0, .string ByteArray.empty]), 6, 56) := by kernel_rfl

theorem append_chg {ops : Array Oper} {rest : List Oper} {o : Oper} {a : Act} {w : World} {Q : Exit → Act → World → Prop} (hgd : o.guard = none) (s x : Operand)
    (ho : o.op = .call { callee := .builtin .append, args := #[s, x], argTypes := #[31, 31] })
    (base g : Nat) (v : Value) (l : List Chg) (c : Chg) (hs : a.eval s = v) (hown : w.ownsRow base 39 6 v l.length (l.flatMap chgCells)) (hx : a.eval x = .slice (some ⟨g, 0, none⟩) 1 1)
    (hsrc : ChgAt w g 0 c)
    (hl : l.length ≤ 1000000) (hbase : base ≤ w.heap.size)
    (h : ∀ g' cap w', w'.ownsRow base 39 6 (.slice (some ⟨g', 0, none⟩) (l ++ [c]).length cap) (l ++ [c]).length ((l ++ [c]).flatMap chgCells) → w.grownBy w' v.ownBlock → wpList Tryd.prog ops Q rest (a.put o.dst (.slice (some ⟨g', 0, none⟩) (l ++ [c]).length cap)) w') : wpList Tryd.prog ops Q (o :: rest) a w := by
  obtain ⟨i0, hi, hz0, hz1, hz2⟩ := info_parts chgInfo
  refine wpList_append_own w hgd s x 31 ho base 39 i0 _ 6 56 Tryd.underlying31 hi hz0 hz1 hz2 rfl (by decide) v l.length (l.flatMap chgCells) hs hown ⟨g, 0, none⟩ 1 1 (chgCells c) hx rfl ?_ ?_ (by unfold maxLen; omega) (by omega) hbase ?_
  · intro j u hju
    rw [addr_add, Nat.zero_add]
    obtain ⟨h0, h1, h2, h3, h4, h5⟩ := hsrc
    match j, hju with
    | 0, hju => simp [chgCells] at hju; subst hju; exact h0
    | 1, hju => simp [chgCells] at hju; subst hju; exact h1
    | 2, hju => simp [chgCells] at hju; subst hju; exact h2
    | 3, hju => simp [chgCells] at hju; subst hju; exact h3
    | 4, hju => simp [chgCells] at hju; subst hju; exact h4
    | 5, hju => simp [chgCells] at hju; subst hju; exact h5
    | j + 6, hju => simp [chgCells] at hju
  · intro u hu
    simp [chgCells] at hu
    rcases hu with rfl | rfl | rfl | rfl | rfl | rfl <;> rfl
  · intro v' w' h2 h3 h4
    rcases h2.2 with ⟨rfl, hn⟩ | ⟨g', cap, cur, rfl, _⟩
    · exact absurd hn (by omega)
    · have e : (l ++ [c]).flatMap chgCells = l.flatMap chgCells ++ chgCells c := by simp
      have e2 : (l ++ [c]).length = l.length + 1 := by simp
      have := h g' cap w'
      rw [e, e2] at this
      exact this h2 h3

/-- how a place is told: beyond its line's end, where it stands there -/
def told (R : List Int) (be : Int) (k : Nat) : Int × Int :=
  ((posOf (R.take k)).1 + (if k = R.length then be % 2 else 0), (posOf (R.take k)).2.1 + (if k = R.length ∨ R[k]? = some 10 then be / 2 % 4 else 0))

theorem told_off (R : List Int) (hR : ∀ c ∈ R, InA c) (be : Int) (hbe : 0 ≤ be ∧ be < 256) (k : Nat) (hk : k ≤ R.length) :
    0 ≤ (told R be k).1 ∧ 0 ≤ (told R be k).2 ∧ offOf (runesBytes R) R (told R be k).1 (told R be k).2 = ((bs (R.take k)).length : Int) := by
  have hb := posOf_bounds (R.take k).length (R.take k) rfl (fun c hc => hR c (List.mem_of_mem_take hc))
  unfold told
  refine ⟨?_, ?_, ?_⟩
  · simp only
    split <;> omega
  · simp only
    split <;> omega
  · refine off_pos R hR k hk _ _ ?_ ?_
    · split
      · rename_i h
        have : be % 2 = 0 ∨ be % 2 = 1 := by omega
        rcases this with h2 | h2
        · exact .inl h2
        · exact .inr ⟨h2, h⟩
      · exact .inl rfl
    · split
      · rename_i h
        refine .inr ⟨by omega, fun hlt => ?_⟩
        rcases h with h | h
        · omega
        · rw [List.getElem?_eq_getElem hlt] at h
          exact Option.some.inj h
      · exact .inl rfl

/-- the change that is told -/
def chgOf (R : List Int) (x : Ty) : Chg :=
  let put := (x.text.take 10).map pick
  let a := x.frm % ((R.length : Int) + 1)
  let b := a + x.til % ((R.length : Int) - a + 1)
  if x.whole = true then ⟨true, 0, 0, 0, 0, put, 0, 0⟩
  else ⟨false, (told R x.be a.toNat).1, (told R x.be a.toNat).2, (told R x.be b.toNat).1, (told R x.be b.toNat).2, put, a.toNat, b.toNat⟩

theorem FitsAll.snoc : ∀ {l : List Chg} {R : List Int} {x : Chg}, FitsAll R l → FitsC (l.foldl stepC R) x → FitsAll R (l ++ [x])
  | [], R, x, _, h => ⟨h, trivial⟩
  | y :: l, R, x, h, h2 => ⟨h.1, FitsAll.snoc h.2 h2⟩

end Go.Proofs.YtppjpkkkogmhfaaDoor
