/- This text proves a part of emendtop.TopPlaced: a text behind some changes: function 16, where the changes fit. Its conditions stand ahead of each theorem. -/
import Derived.Test.YtppjpkkkogmhfaaDoorC6
namespace Go.Proofs.YtppjpkkkogmhfaaDoor
open Go.RowKit Go.Shelf

theorem ret_si {k : IntKind} {s t : ByteArray} {b d : Int} (h : s = t) (h2 : b = d) : Ending.returned (.tuple #[.string s, .int k b]) = .returned (.tuple #[.string t, .int k d]) := by rw [h, h2]

theorem bs_take_mono (R : List Int) {a b : Nat} (h : a ≤ b) : (bs (R.take a)).length ≤ (bs (R.take b)).length := by
  have : R.take a = (R.take b).take a := by rw [List.take_take, Nat.min_eq_left h]
  rw [this]
  exact bs_take_le (R.take b) a

/-- a change, as it lies in memory -/
structure ChgAt (w : World) (b o : Nat) (x : Chg) : Prop where
  c0 : w.cell? ⟨b, o, none⟩ = some (.bool x.whole)
  c1 : w.cell? ⟨b, o + 1, none⟩ = some (.int .i64 x.l1)
  c2 : w.cell? ⟨b, o + 2, none⟩ = some (.int .i64 x.c1)
  c3 : w.cell? ⟨b, o + 3, none⟩ = some (.int .i64 x.l2)
  c4 : w.cell? ⟨b, o + 4, none⟩ = some (.int .i64 x.c2)
  c5 : w.cell? ⟨b, o + 5, none⟩ = some (.string (runesBytes x.put))

theorem ChgAt.below {w w' : World} {b o : Nat} {x : Chg} (h : ChgAt w b o x) (hb : Below w.heap.size w w') : ChgAt w' b o x := by
  have hlt := World.block_lt_of_cell? w _ h.c0
  have hc : ∀ i, w'.cell? ⟨b, i, none⟩ = w.cell? ⟨b, i, none⟩ := fun i => hb.cell (p := ⟨b, i, none⟩) hlt
  exact ⟨(hc _).trans h.c0, (hc _).trans h.c1, (hc _).trans h.c2, (hc _).trans h.c3, (hc _).trans h.c4, (hc _).trans h.c5⟩

set_option maxRecDepth 1000000 in
set_option maxHeartbeats 4000000 in
theorem after_any (b off cap : Nat) (R0 : List Int) (chs : List Chg) (hR : ∀ c ∈ R0, InA c) (hf : FitsAll R0 chs) (hlen : R0.length + 10 * chs.length ≤ 10000) (w : World) (ht : Tabs w)
    (hc : ∀ j (h : j < chs.length), ChgAt w b (off + j * 6) chs[j]) :
    Calls Tryd.prog 16 #[.string (runesBytes R0), .slice (some ⟨b, off, none⟩) chs.length cap] w fun e w' => e = .returned (.tuple #[.string (runesBytes (chs.foldl stepC R0)), .int .i64 0]) ∧ Below w.heap.size w w' := by
  have hu35 := Tryd.underlying35
  have hu37 := Tryd.underlying37
  have hu39 := Tryd.underlying39
  have HR := Lib.hid hR
  have HF := Lib.hid hf
  have HT := Lib.hid ht
  have HC := Lib.hid hc
  clear hR hf ht hc
  go_enter Tryd.func16, Tryd.ntmps16
  go_wp2
  go_loopw [0, 15] (fun sv iv wr => ∃ (k : Nat) (s : ByteArray), k ≤ chs.length ∧ iv = .int .i64 k ∧ sv = .string s ∧ Hid (s = runesBytes ((chs.take k).foldl stepC R0)) ∧ Below w.heap.size w wr) (fun _ iv _ => chs.length - (intOf iv).toNat)
  case atStart => exact ⟨0, _, Nat.zero_le _, rfl, rfl, Lib.hid rfl, Below.refl _ _⟩
  case round =>
    obtain ⟨k, s, hk, rfl, rfl, hs, hB⟩ := hrel
    by_cases hlt : k < chs.length
    · obtain ⟨x, hx⟩ : ∃ x, chs[k] = x := ⟨_, rfl⟩
      have hx0 : ChgAt wr b (off + k * 6) x := by rw [← hx]; exact (HC.out k hlt).below hB
      have hfit : FitsC ((chs.take k).foldl stepC R0) x := by rw [← hx]; exact FitsAll.at hlt HF.out
      have hok := foldl_ok (chs.take k) R0 HR.out (fitsAll_take chs R0 k HF.out)
      have hnext : (chs.take (k + 1)).foldl stepC R0 = stepC ((chs.take k).foldl stepC R0) x := by
        rw [List.take_succ_eq_append_getElem hlt, List.foldl_append, hx]
        rfl
      have hs := hs.out
      have hlk : (chs.take k).length ≤ chs.length := by rw [List.length_take]; omega
      generalize (chs.take k).foldl stepC R0 = Rk at hfit hok hnext hs
      subst hs
      obtain ⟨hRA, hRl⟩ := hok
      have hRl2 : Rk.length ≤ 10000 := by omega
      have hsz : (runesBytes Rk).size ≤ 40000 := by
        have := bs_length_le Rk hRA
        rw [size_list _ _ (runes_toList Rk)]
        omega
      obtain ⟨wh, l1, cc1, l2, cc2, put, a, bb⟩ := x
      obtain ⟨hpA, hpl, hnw⟩ := hfit
      simp only at hpA hpl hnw
      have hpz : (runesBytes put).size ≤ 40 := by
        have := bs_length_le put hpA
        rw [size_list _ _ (runes_toList put)]
        omega
      obtain ⟨c0, c1, c2, c3, c4, c5⟩ := hx0
      simp only at c0 c1 c2 c3 c4 c5
      have HV := Lib.hid (fun (w : World) (ht : Tabs w) => valid_any (runesBytes put) put (runes_toList put) hpA (by omega) w ht)
      have HRA := Lib.hid hRA
      have HPA := Lib.hid hpA
      have HN := Lib.hid hnext
      clear hx hRA hpA hnext
      obtain ⟨wb, hwb⟩ : ∃ wb, wb = wr.alloc (.cells #[.bool wh, .int .i64 l1, .int .i64 cc1, .int .i64 l2, .int .i64 cc2, .string (runesBytes put)] 39) := ⟨_, rfl⟩
      have hbw : Below wr.heap.size wr wb := by rw [hwb]; exact (Below.refl _ _).alloc (Nat.le_refl _) _
      have hTw := (HT.out.below hB).below hbw
      rw [hwb] at hTw hbw
      have HTW := Lib.hid hTw
      clear hwb wb hTw
      cases wh with
      | true =>
        clear hnw
        go_wp2_with (first
          | (go_at_call 26; refine (HV.out _ HTW.out).mono ?_; rintro e w1 ⟨rfl, hb1⟩; have hs1 := hb1.size; simp only [World.size_alloc] at hs1; have hcc := (fun o => hb1.cell (p := ⟨wr.heap.size, o, none⟩) (by simp))))
        go_quiet (fail)
        go_wp2
        go_roundw
        case rel =>
          refine ⟨k + 1, _, hlt, by go_num, rfl, Lib.hid ?_, ?_⟩
          · rw [HN.out]
            show _ = runesBytes put
            apply bytes_ext
            simp [ByteArray.data_append, Lib.extract_data]
          · exact bDrewN (hB.trans ((hbw.trans (hb1.mono (by simp))).mono hB.size)) _
        case measure =>
          simp [intOf]
          omega
      | false =>
        obtain ⟨hab, hbR, hl1, hcc1, hl2, hcc2, ho1, ho2⟩ := hnw rfl
        have hAB := bs_take_mono Rk hab
        have hBS := bs_take_le Rk bb
        rw [← size_list _ _ (runes_toList Rk)] at hBS
        have cC := fun w => cut_any (runesBytes Rk) Rk l1 cc1 l2 cc2 hl1 hcc1 hl2 hcc2 (runes_toList Rk) HRA.out (by omega) (by omega) (by rw [ho1, ho2]; omega) w
        simp only [ho1, ho2] at cC
        have HSp := Lib.hid (splice Rk put a bb)
        generalize (bs (Rk.take a)).length = A at hAB cC HSp
        generalize (bs (Rk.take bb)).length = B at hAB hBS cC HSp
        have HC2 := Lib.hid cC
        clear cC ho1 ho2 hnw
        have hlt65 : decide ((65536 : Int) < ((runesBytes Rk).size : Int) - ((B : Int) - (A : Int)) + ((runesBytes put).size : Int)) = false := decide_eq_false (by omega)
        go_wp2_with (first
          | (go_at_call 26; refine (HV.out _ HTW.out).mono ?_; rintro e w1 ⟨rfl, hb1⟩; have hs1 := hb1.size; simp only [World.size_alloc] at hs1; have hcc := (fun o => hb1.cell (p := ⟨wr.heap.size, o, none⟩) (by simp)))
          | (go_at_call 27; refine (HC2.out _).mono ?_; rintro e w2 ⟨rfl, hb2⟩; have hs2 := hb2.size; have hcc2' := (fun o => (hb2.cell (p := ⟨wr.heap.size, o, none⟩) (by show wr.heap.size < w1.heap.size; omega)).trans (hcc o)); clear hcc))
        have hA0 : (A : Int) ≤ ((runesBytes Rk).size : Int) := by omega
        have hB0 : (B : Int) ≤ ((runesBytes Rk).size : Int) := by omega
        go_quiet (fail)
        go_wp2
        go_roundw
        case rel =>
          refine ⟨k + 1, _, hlt, by go_num, rfl, Lib.hid ?_, ?_⟩
          · rw [HN.out]
            exact HSp.out
          · exact bDrewN (hB.trans ((hbw.trans ((hb1.trans (hb2.mono hb1.size)).mono (by simp))).mono hB.size)) _
        case measure =>
          simp [intOf]
          omega
    · have hkE : k = chs.length := by omega
      have hs := hs.out
      rw [hkE, List.take_length] at hs
      have HSs := Lib.hid hs
      clear hs hkE
      go_wp2
      go_ret2
      exact ⟨ret_si HSs.out rfl, hB⟩

end Go.Proofs.YtppjpkkkogmhfaaDoor
