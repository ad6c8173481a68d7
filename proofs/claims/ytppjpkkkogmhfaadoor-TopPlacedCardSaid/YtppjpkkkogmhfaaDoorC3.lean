/- This text proves a part of emendtop.TopPlaced: what a text may be, and a new set of documents: functions 26, 15, 5 and 13. Its conditions stand ahead of each theorem. -/
import Derived.Test.YtppjpkkkogmhfaaDoorC2
import Derived.WalkSpells
import Derived.MapKept
namespace Go.Proofs.YtppjpkkkogmhfaaDoor
open Go.RowKit Go.Shelf

theorem valid_any (s : ByteArray) (R : List Int) (hs : s.data.toList = bs R) (hR : ∀ c ∈ R, InA c) (hsz : s.size < 4294967281) (w : World) (ht : Tabs w) :
    Calls Tryd.prog 26 #[.string s] w fun e w' => e = .returned (.bool true) ∧ Below w.heap.size w w' := by
  have hv : Lib.validD s.data.toList = true := by rw [hs]; exact validD_bs R hR
  have c := Tryd.utf8_ValidString s w (by omega) ht.2
  rw [hv] at c
  clear hv hs ht
  go_enter Tryd.func26, Tryd.ntmps26
  go_wp2_with (go_at_call 38; refine c.mono ?_; rintro e w' ⟨rfl, hb⟩)
  go_ret
  exact ⟨rfl, hb⟩

theorem may_any (s : ByteArray) (R : List Int) (hs : s.data.toList = bs R) (hR : ∀ c ∈ R, InA c) (hsz : s.size ≤ 65536) (w : World) (ht : Tabs w) :
    Calls Tryd.prog 15 #[.string s] w fun e w' => e = .returned (.int .i64 0) ∧ Below w.heap.size w w' := by
  have c := valid_any s R hs hR (by omega) w ht
  have hd : decide ((65536 : Int) < (s.size : Int)) = false := decide_eq_false (by omega)
  clear hs hR ht
  go_enter Tryd.func15, Tryd.ntmps15
  go_wp2_with (go_at_call 26; refine c.mono ?_; rintro e w' ⟨rfl, hb⟩)
  go_ret
  exact ⟨rfl, hb⟩

theorem new_c (w : World) :
    Calls Tryd.prog 5 #[] w fun e w' => e = .returned (.pointer (some ⟨w.heap.size + 1, 0, none⟩)) ∧ w' = (w.alloc (.map #[] 0)).alloc (.cells #[.map (some w.heap.size)] 55) := by
  have hmm := @run_makeMap Tryd.prog
  have hu55 := Tryd.underlying55
  go_enter Tryd.func5, Tryd.ntmps5
  go_wp2
  go_ret
  exact ⟨rfl, rfl⟩

/-- the documents: where they lie -/
structure DocsAt (w : World) (d m : Nat) (es : Array MapEntry) (clk : Nat) : Prop where
  cell : w.cell? ⟨d, 0, none⟩ = some (.map (some m))
  map : w.heap[m]? = some (.map es clk)

set_option maxRecDepth 1000000 in
theorem is_any (w : World) (d m : Nat) (es : Array MapEntry) (clk : Nat) (h : DocsAt w d m es clk) :
    Calls Tryd.prog 13 #[.pointer (some ⟨d, 0, none⟩)] w fun e w' => e = .returned (.bool true) ∧ w = w' := by
  have hc := h.cell
  have hu55 := Tryd.underlying55
  have hu53 := Tryd.underlying53
  have hnn := fun (W : World) => run_neq_map_nil (P := Tryd.prog) W 53 9 45 (some m) Tryd.underlying53
  clear h
  go_enter Tryd.func13, Tryd.ntmps13
  go_wp2
  go_ret
  exact ⟨rfl, rfl⟩

theorem zero45 (w : World) : (zeroValue 45).run Tryd.prog w = .ok (.agg #[.string ByteArray.empty, .string ByteArray.empty, .int .i64 0]) w := Tryd.zeroValue45 w

theorem kk (k : ByteArray) : (k == k) = true := by
  cases k with
  | mk a =>
    show (a == a) = true
    simp

theorem ck {w : World} (e : Bool) (k : ByteArray) : (Instr.checkKey e 10000 9 (.string k)).run Tryd.prog w = .ok () w := by
  exact MapKept.run_checkKey Tryd.underlying9 (show MapKept.IsKey .string (.string k) from trivial) e _

theorem look_none {w : World} {m clk : Nat} {k : ByteArray} (h : w.heap[m]? = some (.map #[] clk)) :
    (Instr.lookup 53 (.map (some m)) (.string k) true).run Tryd.prog w = .ok (.tuple #[.agg #[.string ByteArray.empty, .string ByteArray.empty, .int .i64 0], .bool false]) w := by
  have hf : (Instr.findKey 9 (.string k) []).run Tryd.prog w = .ok none w := MapKept.run_findKey Tryd.underlying9 rfl
  simp only [Instr.lookup, getObj, Sem.run_bind, Sem.run, run_underlying Tryd.underlying53, h, Result.andThen, Array.isEmpty_empty, ck, Array.toList_empty]
  simp [Sem.run, hf, zero45, Result.andThen]
  rfl

theorem look_hit {w : World} {m clk born : Nat} {k : ByteArray} {v : Value} (h : w.heap[m]? = some (.map #[{ key := .string k, val := v, born }] clk)) :
    (Instr.lookup 53 (.map (some m)) (.string k) true).run Tryd.prog w = .ok (.tuple #[v, .bool true]) w := by
  have hf : (Instr.findKey 9 (.string k) [{ key := .string k, val := v, born }]).run Tryd.prog w = .ok (some (0, v)) w := MapKept.run_findKey Tryd.underlying9 (by simp [Instr.findNow, Instr.sameNow, kk])
  simp only [Instr.lookup, getObj, Sem.run_bind, Sem.run, run_underlying Tryd.underlying53, h, Result.andThen, ck]
  simp [Sem.run, hf]

theorem len_map {w : World} {m clk : Nat} {es : Array MapEntry} (h : w.heap[m]? = some (.map es clk)) (ty : TypeId) :
    (Builtin.len_ #[53] ty #[.map (some m)]).run Tryd.prog w = .ok (.int .i64 es.size) w := by
  simp [Builtin.len_, getObj, Sem.run, run_underlying Tryd.underlying53, h, goInt]

theorem upd_new {w : World} {m clk : Nat} {k : ByteArray} {v : Value} (h : w.heap[m]? = some (.map #[] clk)) :
    (Instr.mapUpdate 53 (.map (some m)) (.string k) v).run Tryd.prog w = .ok () (w.putObj m (.map #[{ key := .string k, val := v, born := clk }] (clk + 1))) := by
  have hf : (Instr.findKey 9 (.string k) []).run Tryd.prog w = .ok none w := MapKept.run_findKey Tryd.underlying9 rfl
  simp only [Instr.mapUpdate, getObj, setObj, Sem.run_bind, Sem.run, run_underlying Tryd.underlying53, h, Result.andThen, ck, Array.toList_empty, hf, World.putObj]
  simp [Sem.run, hf, h]

theorem upd_hit {w : World} {m clk born : Nat} {k : ByteArray} {v u : Value} (h : w.heap[m]? = some (.map #[{ key := .string k, val := u, born }] clk)) :
    (Instr.mapUpdate 53 (.map (some m)) (.string k) v).run Tryd.prog w = .ok () (w.putObj m (.map #[{ key := .string k, val := v, born }] clk)) := by
  have hf : (Instr.findKey 9 (.string k) [{ key := .string k, val := u, born }]).run Tryd.prog w = .ok (some (0, u)) w := MapKept.run_findKey Tryd.underlying9 (by simp [Instr.findNow, Instr.sameNow, kk])
  simp only [Instr.mapUpdate, getObj, setObj, Sem.run_bind, Sem.run, run_underlying Tryd.underlying53, h, Result.andThen, ck, hf, World.putObj]
  have hkk : (k == k) = true := kk k
  simp [Sem.run, Instr.keyThatStays, Instr.sameBits, hf, h, hkk]

end Go.Proofs.YtppjpkkkogmhfaaDoor
