/- This text proves a part of emendtop.TopPlaced: the walk over a text's lines: functions 19 and 29, over texts of the alphabet. Its conditions stand ahead of each theorem. -/
import Derived.Test.YtppjpkkkogmhfaaDoorA6
import Derived.Test.YtppjpkkkogmhfaaDoorL2
import Derived.RangeFuncNested
import Derived.RangeFuncBound
import Derived.RangeFuncCalls
import Derived.RangeFuncLeaves
import Derived.RangeFuncFrom
import Derived.Shelf.Abstract
import Derived.Shelf.RegionOpen
import Derived.OwnWalkIn
import Derived.TacticsInMore
import Derived.LoopNIn
import Derived.LoopIn
namespace Go.Proofs.YtppjpkkkogmhfaaDoor
open Go.RowKit Go.Shelf
attribute [local go_sem] Oper.semAt_some

abbrev W0 : Fence := Fence.wide

theorem grown_of_below {w w' : World} (h : Below w.heap.size w w') : w.grownBy w' none :=
  ⟨h.os, h.tape, h.output, h.size, fun k hk _ => h.block k hk⟩

/-- a piece of a text of so many bytes -/
abbrev LP (N : Nat) := { x : Int × Int // 0 ≤ x.1 ∧ x.1 ≤ x.2 ∧ x.2 ≤ (N : Int) }
abbrev encP {N : Nat} (x : LP N) : Array Value := #[.int .i64 x.1.1, .int .i64 x.1.2]
abbrev vals {N : Nat} (l : List (LP N)) : List (Int × Int) := l.map (·.1)

/-- a round leaves one block as it was -/
def BoxKept (B : Nat) (W W' : World) : Prop := W'.heap[B]? = W.heap[B]?
theorem BoxKept.trans {B : Nat} {A C D : World} (h : BoxKept B A C) (k : BoxKept B C D) : BoxKept B A D := Eq.trans k h
theorem BoxKept.cell {B : Nat} {W W' : World} (h : BoxKept B W W') : W'.cell? ⟨B, 0, none⟩ = W.cell? ⟨B, 0, none⟩ := by
  unfold World.cell?
  rw [show W'.heap[B]? = W.heap[B]? from h]
theorem BoxKept.put {B n : Nat} (hB : B < n) (W : World) (l : Nat) (o o' : Obj) (hl : n ≤ l) (_ : W.heap[l]? = some o) (_ : o.isCells = false) (_ : o.isWalk = false) : BoxKept B W (W.putObj l o') :=
  World.putObj_heap_other (by omega)
theorem BoxKept.setCell {B : Nat} (W : World) (a : Addr) (v : Value) (h : B ≠ a.block) : BoxKept B W (W.setCell a v) := Below.heap_setCell W a v B h
theorem BoxKept.below {B : Nat} {W W' : World} (h : Below W.heap.size W W') (hB : B < W.heap.size) : BoxKept B W W' := h.block B hB

theorem each_in (n : Nat) (s : ByteArray) (w : World) :
    CallsIn W0 n Tryd.prog 19 #[.string s] w fun e w' => e = .returned (.func (.func 29) #[] #[.pointer (some ⟨w.heap.size, 0, none⟩)]) ∧ w' = w.alloc (.cells #[.string s] 9) := by
  refine callsIn_of_wp Tryd.func19 rfl trivial ?_ rfl
  simp only [Tryd.ntmps19, List.size_toArray, List.length_cons, List.length_nil, Nat.reduceAdd, Nat.reduceSub, Array.replicate_succ, Array.replicate_zero, List.push_toArray, List.append_toArray, List.nil_append, List.cons_append]
  gi_wp2
  go_ret
  exact ⟨rfl, rfl⟩

theorem hasPrefix_no (t : List UInt8) (h : t[0]? ≠ some 13) : Lib.hasPrefix t [13, 10] = false := by
  cases t with
  | nil => rfl
  | cons b t =>
    have : b ≠ 13 := by simpa using h
    simp [Lib.hasPrefix, List.isPrefixOf]
    intro h1
    exact absurd h1.symm this

set_option maxHeartbeats 2000000 in
set_option maxRecDepth 1000000 in
theorem each1_in (n : Nat) (hn : 1 ≤ n) (s : ByteArray) (R : List Int) (hs : s.data.toList = bs R) (hR : ∀ c ∈ R, InA c) (hsz : s.size < 4294967281)
    (l Bn : Nat) (J Jx : List (LP s.size) → World → Prop) (W : World) (hJa : AbidesFrom W.heap.size J)
    (hY : ∀ pre x W, J pre W → pre.length < (lns R).length → YieldAt W0 (n - 1) Tryd.prog l (encP x) W fun e W' =>
      (e = .returned (.bool true) ∧ J (pre ++ [x]) W' ∧ BoxKept Bn W W') ∨ (e = .returned (.bool false) ∧ Jx (pre ++ [x]) W'))
    (hc : W.cell? ⟨Bn, 0, none⟩ = some (.string s)) (h0 : J [] W) :
    CallsIn W0 n Tryd.prog 29 #[.func (.yield l) #[] #[], .pointer (some ⟨Bn, 0, none⟩)] W fun e W' => (∃ v, e = .returned v) ∧
      ((∃ ys, vals ys = lns R ∧ J ys W') ∨ (∃ pre, vals pre <+: lns R ∧ Jx pre W')) := by
  have HS := Lib.hid hs
  have HR := Lib.hid hR
  have HJ := Lib.hid hJa
  have HY := Lib.hid hY
  clear hs hR hJa hY
  refine callsIn_of_wp Tryd.func29 rfl trivial ?_ rfl
  simp only [Tryd.ntmps29, List.size_toArray, List.length_cons, List.length_nil, Nat.reduceAdd, Nat.reduceSub, Array.replicate_succ, Array.replicate_zero, List.push_toArray, List.append_toArray, List.nil_append, List.cons_append]
  gi_wp2
  gi_loopw [3] (fun f wr => ∃ (pre : List (LP s.size)) (P Q : List Int) (from_ : Nat), f = .int .i64 from_ ∧ Hid (from_ = (bs P).length) ∧ Hid (R = P ++ Q) ∧ Hid (vals pre ++ lnsF from_ from_ Q = lns R) ∧ J pre wr ∧ wr.cell? ⟨Bn, 0, none⟩ = some (.string s) ∧ from_ ≤ s.size)
    (fun f _ => s.size + 1 - (intOf f).toNat)
  case atStart =>
    exact ⟨[], [], R, 0, rfl, by exact Lib.hid rfl, by exact Lib.hid rfl, by exact Lib.hid rfl, h0, hc, by omega⟩
  case round =>
    obtain ⟨pre, P, Q, from_, rfl, hf, hPQ, hL, hJs, hcs, hle⟩ := hrel
    have hsl : (s.extract from_ s.size).data.toList = bs Q := by
      rw [hf.out]
      exact bs_drop s P Q (by rw [HS.out, hPQ.out])
    have hQA : ∀ c ∈ Q, InA c := fun c h => HR.out c (by rw [hPQ.out]; exact List.mem_append.2 (.inr h))
    have hlen : from_ + (bs Q).length = s.size := by
      rw [hf.out, size_list s _ HS.out, hPQ.out, bs_append, List.length_append]
    rcases split10 Q with hno | ⟨A, B, hAB, hA⟩
    · -- the last line
      have hL1 : lnsF from_ from_ Q = [((from_ : Int), (s.size : Int))] := by rw [lnsF_none Q from_ from_ hno, hlen]
      have hplen : pre.length < (lns R).length := by rw [← hL.out, List.length_append, hL1]; simp [vals]
      have cI := indexAny_R (s.extract from_ s.size) Q hsl hQA (by rw [ByteArray.size_extract]; omega)
      rw [indexAny_none10 Q hQA hno] at cI
      have HC := Lib.hid cI
      have HL1 := Lib.hid hL1
      have Hlen := Lib.hid hlen
      clear cI hL1 hlen hsl
      have hx1 : 0 ≤ (from_ : Int) ∧ (from_ : Int) ≤ (s.size : Int) ∧ (s.size : Int) ≤ (s.size : Int) := by omega
      gi_wp2_with (first | (refine ⟨trivial, ?_⟩; gi_at_call 30; refine (callsIn_wide.2 (HC.out _)).mono ?_; rintro e w1 ⟨rfl, hw1⟩; have hJ1 := HJ.out pre wr w1 none hJs (grown_of_below hw1) (fun r e => by cases e); obtain ⟨fn, tmps, assign, body, hy, hR1⟩ := HY.out pre ⟨((from_ : Int), (s.size : Int)), hx1⟩ w1 hJ1 hplen; dsimp only [encP] at hy; have hcs1 := (hw1.cell (p := ⟨Bn, 0, none⟩) (World.block_lt_of_cell? wr _ hcs)).trans hcs))
      refine hR1.mono ?_
      rintro e W3 (⟨rfl, hJ3, hk3⟩ | ⟨rfl, hJx3⟩)
      · gi_wp2
        refine bodyPost_ret (results_none rfl _ _ _) rfl ?_
        exact ⟨⟨_, rfl⟩, .inl ⟨_, by rw [← hL.out, HL1.out]; simp [vals], hJ3⟩⟩
      · gi_wp2
        refine bodyPost_ret (results_none rfl _ _ _) rfl ?_
        exact ⟨⟨_, rfl⟩, .inr ⟨_, ⟨[], by rw [← hL.out, HL1.out, List.append_nil]; simp [vals]⟩, hJx3⟩⟩
    · -- one line more
      have hL1 : lnsF from_ from_ Q = ((from_ : Int), ((from_ + (bs A).length : Nat) : Int)) :: lnsF (from_ + (bs A).length + 1) (from_ + (bs A).length + 1) B := by rw [hAB, lnsF_hit A B from_ from_ hA]
      have hplen : pre.length < (lns R).length := by rw [← hL.out, List.length_append, hL1]; simp [vals]
      have hAA : ∀ c ∈ A, InA c := fun c h => hQA c (by rw [hAB]; exact List.mem_append.2 (.inl h))
      have cI := indexAny_R (s.extract from_ s.size) Q hsl hQA (by rw [ByteArray.size_extract]; omega)
      rw [hAB, indexAny_hit10 A B hAA hA] at cI
      obtain ⟨m, hm⟩ : ∃ m, (bs A).length = m := ⟨_, rfl⟩
      rw [hm] at cI hL1
      have hlen2 : from_ + m + 1 + (bs B).length = s.size := by rw [← hlen, hAB, bs_append, bs_cons, List.length_append, List.length_append, hm, bl10]; simp; omega
      have HC := Lib.hid cI
      have HL1 := Lib.hid hL1
      have Hm := Lib.hid hm
      have hb1 : (from_ : Int) + (m : Int) + 1 ≤ (s.size : Int) := by omega
      have hb2 : from_ + m + 1 ≤ s.size := by omega
      have Hlen2 := Lib.hid hlen2
      have Hlen := Lib.hid hlen
      clear cI hL1 hlen hlen2 hm
      have hx1 : 0 ≤ (from_ : Int) ∧ (from_ : Int) ≤ ((from_ + m : Nat) : Int) ∧ ((from_ + m : Nat) : Int) ≤ (s.size : Int) := by omega
      have hPre : Lib.hasPrefix (s.extract (from_ + m) s.size).data.toList [13, 10] = false := by
        have e : from_ + m = (bs (P ++ A)).length := by rw [bs_append, List.length_append, hf.out, Hm.out]
        rw [e, bs_drop s (P ++ A) (10 :: B) (by rw [HS.out, hPQ.out, hAB, List.append_assoc]), bs_cons, bl10]
        exact hasPrefix_no _ (by simp)
      have HPre := Lib.hid hPre
      clear hPre
      gi_wp2_with (first | (refine ⟨trivial, ?_⟩; gi_at_call 30; refine (callsIn_wide.2 (HC.out _)).mono ?_; rintro e w1 ⟨rfl, hw1⟩; have hJ1 := HJ.out pre wr w1 none hJs (grown_of_below hw1) (fun r e => by cases e); obtain ⟨fn, tmps, assign, body, hy, hR1⟩ := HY.out pre ⟨((from_ : Int), ((from_ + m : Nat) : Int)), hx1⟩ w1 hJ1 hplen; dsimp only [encP] at hy; push_cast at hy; have hcs1 := (hw1.cell (p := ⟨Bn, 0, none⟩) (World.block_lt_of_cell? wr _ hcs)).trans hcs))
      refine hR1.mono ?_
      rintro e W3 (⟨rfl, hJ3, hk3⟩ | ⟨rfl, hJx3⟩)
      · have hcs3 := hk3.cell.trans hcs1
        gi_wp2_with (first | (refine ⟨trivial, ?_⟩; gi_at_call 31; refine (callsIn_wide.2 (Tryd.strings_HasPrefix _ _ _)).mono ?_; rintro e w4 ⟨rfl, rfl⟩; rw [HPre.out]))
        go_roundw
        case rel =>
          refine ⟨pre ++ [⟨((from_ : Int), ((from_ + m : Nat) : Int)), hx1⟩], P ++ A ++ [10], B, from_ + m + 1, by go_num, Lib.hid ?_, Lib.hid ?_, Lib.hid ?_, ?_, hcs3, by omega⟩
          · rw [bs_append, bs_append, List.length_append, List.length_append, hf.out, Hm.out]
            simp [bs, bl10]
          · rw [hPQ.out, hAB]
            simp
          · rw [← hL.out, HL1.out]
            simp [vals]
          · exact hJ3
        case measure =>
          simp [intOf]
          omega
      · gi_wp2
        refine bodyPost_ret (results_none rfl _ _ _) rfl ?_
        refine ⟨⟨_, rfl⟩, .inr ⟨_, ⟨lnsF (from_ + m + 1) (from_ + m + 1) B, ?_⟩, hJx3⟩⟩
        rw [← hL.out, HL1.out]
        simp [vals]

theorem each_stops (n : Nat) (hn : 1 ≤ n) (s : ByteArray) (R : List Int) (hs : s.data.toList = bs R) (hR : ∀ c ∈ R, InA c) (hsz : s.size < 4294967281)
    (Bn : Nat) (w : World) (hc : w.cell? ⟨Bn, 0, none⟩ = some (.string s)) :
    SeqStopsK W0 n Tryd.prog 29 #[.pointer (some ⟨Bn, 0, none⟩)] (encP (N := s.size)) (BoxKept Bn) (fun ys => vals ys = lns R) (fun pre => vals pre <+: lns R) (lns R).length w := fun l J Jx W hW hJ _ hY h0 =>
  each1_in n hn s R hs hR hsz l Bn J Jx W hJ hY ((hW.cell (p := ⟨Bn, 0, none⟩) (World.block_lt_of_cell? w _ hc)).trans hc) h0

end Go.Proofs.YtppjpkkkogmhfaaDoor
