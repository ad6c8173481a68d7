/- This text proves a part of emendtop.TopPlaced: function 3 returns true at every input. Its conditions stand ahead of each theorem. -/
import Derived.Test.YtppjpkkkogmhfaaDoorN9
import Derived.Deep.DeepCutAuto
import Derived.Deep.LoopGhost
import Derived.Deep.Cut
import Derived.Deep.CutBlock
namespace Go.Proofs.YtppjpkkkogmhfaaDoor
open Go.RowKit Go.Shelf

theorem only_block {c : Code} {n : Nat} {K : Act → World → Prop} {Q : Exit → Act → World → Prop} {a : Act} {w : World} (h : c.wp Tryd.prog (Exit.then K fun _ _ _ => False) a w) : c.wp Tryd.prog (Exit.inBlock n (Exit.then K Q)) a w := by
  refine wp_mono h ?_
  intro e a' w' hq
  cases e with
  | normal => exact hq
  | exit id => exact hq.elim
  | goto l => exact hq.elim
  | ret => exact hq.elim
  | panic ch => exact hq.elim
  | outgrown => exact hq.elim

theorem DocsAt.new {w w2 : World} (h : w2 = (w.alloc (.map #[] 0)).alloc (.cells #[.map (some w.heap.size)] 55)) : DocsAt w2 (w.heap.size + 1) w.heap.size #[] 0 := by
  subst h
  refine ⟨?_, ?_⟩
  · have e := World.alloc_heap_new (w.alloc (.map #[] 0)) (.cells #[.map (some w.heap.size)] 55)
    have e2 : (w.alloc (.map #[] 0)).heap.size = w.heap.size + 1 := by simp
    rw [e2] at e
    simp only [World.cell?, e]
    rfl
  · rw [Below.heap_alloc _ _ _ (by simp)]
    exact World.alloc_heap_new w _

theorem below_two {w w2 : World} {o p : Obj} (h : w2 = (w.alloc o).alloc p) : Below w.heap.size w w2 := by
  subst h
  exact ((Below.refl _ _).alloc (Nat.le_refl _) _).alloc (by simp) _

set_option maxRecDepth 1000000 in
set_option maxHeartbeats 16000000 in
theorem top_any (bv lv : Value) (Bs : List Int) (L : List Ty) (calls : Int) (w : World) (hB : ∀ x ∈ Bs, 0 ≤ x ∧ x < 256)
    (hL : ∀ x ∈ L, (0 ≤ x.frm ∧ x.frm < 65536) ∧ (0 ≤ x.til ∧ x.til < 65536) ∧ (0 ≤ x.be ∧ x.be < 256) ∧ (∀ y ∈ x.text, 0 ≤ y ∧ y < 256))
    (hLl : L.length ≤ 9223372036854775807) (hBl : Bs.length ≤ 9223372036854775807) (hc16 : 0 ≤ calls ∧ calls < 65536) (ht : Tabs w) (hb : U8At w bv Bs) (hl : LAt w lv L) :
    Calls Tryd.prog 3 #[bv, lv, .int .u16 calls] w fun e w' => e = .returned (.bool true) ∧ Below w.heap.size w w' := by
  have hblen := hb.len
  have hllen := hl.len
  obtain ⟨k0, hk0⟩ : ∃ k0, min Bs.length 40 = k0 := ⟨_, rfl⟩
  have hmin : min (Bs.length : Int) 40 = (k0 : Int) := by omega
  obtain ⟨v1, hv1, hs1⟩ := hb.hi k0 (by omega)
  have hs1' : ∀ W : World, (Instr.slice 22 bv none (some (.int .i64 (min (Bs.length : Int) 40))) none).run Tryd.prog W = .ok v1 W := by rw [hmin]; exact hs1
  have hs1l : (Bs.take k0).length ≤ 40 := by rw [List.length_take]; omega
  have hu33 := Tryd.underlying33
  have hu35 := Tryd.underlying35
  have hu37 := Tryd.underlying37
  have hu39 := Tryd.underlying39
  have hu45 := Tryd.underlying45
  have HP := Lib.hid (plainRunes_any v1 (Bs.take k0) w (fun x hx => hB x (List.mem_of_mem_take hx)) (by omega) hv1)
  have Ht := Lib.hid ht
  have Hl := Lib.hid hl
  have HL := Lib.hid hL
  have HLl := Lib.hid hLl
  obtain ⟨R0, hR0⟩ : ∃ R0, (Bs.take k0).map pick = R0 := ⟨_, rfl⟩
  have hR0A : ∀ c ∈ R0, InA c := by rw [← hR0]; exact picks_in _
  have hR0l : R0.length ≤ 40 := by rw [← hR0, List.length_map]; exact hs1l
  have hsz0 := size_list _ _ (runes_toList R0)
  have hbl0 := bs_length_le R0 hR0A
  have HRA := Lib.hid hR0A
  rw [hR0] at HP
  clear hB hL ht hb hl hv1 hs1 hR0 hR0A hLl hBl hs1l hmin hk0
  go_enter Tryd.func3, Tryd.ntmps3
  go_upto_block 0 with (first
    | (go_at_call 4; refine HP.out.mono ?_; rintro e w1 ⟨tv, rfl, hr1, hb1⟩)
    | (go_at_call 5; refine (new_c _).mono ?_; rintro e w2 ⟨rfl, hw2⟩; have hd2 := DocsAt.new hw2; have hb2 := below_two hw2; clear hw2; have hr2 := hr1.below hb2; have ht2 := (Ht.out.below hb1).below hb2; have htxt := hr2.text)
    | (go_at_call 6; refine (open_any _ _ _ (runesBytes R0) R0 (runes_toList R0) HRA.out (by omega) _ ht2 hd2).mono ?_; rintro e w3 ⟨rfl, w4, hb4, hw3⟩))
  subst hw3
  obtain ⟨m, hm⟩ : ∃ m, w1.heap.size = m := ⟨_, rfl⟩
  rw [hm] at hd2 ⊢
  obtain ⟨d, hd⟩ : ∃ d, m + 1 = d := ⟨_, rfl⟩
  rw [hd] at hd2 ⊢
  have hd4 := hd2.below hb4
  have hg3 := grownBy_putObj w4 m (.map (oneE (runesBytes R0) 1 0) (0 + 1))
  have hmap : ∀ k, some m = some k → ∀ cs fz, w4.heap[k]? ≠ some (.cells cs 21 fz) := by
    intro k e cs fz
    cases e
    rw [hd4.map]
    simp
  have hr3 := (hr2.below hb4).grown hg3 hmap
  have hd3 := hd4.put (oneE (runesBytes R0) 1 0) (0 + 1)
  have hB3 : Below w.heap.size w (w4.putObj m (.map (oneE (runesBytes R0) 1 0) (0 + 1))) := by
    exact (((hb1.trans (hb2.mono hb1.size)).trans (hb4.mono (Nat.le_trans hb1.size hb2.size)))).grown hg3 (Nat.le_trans hb1.size (Nat.le_trans hb2.size hb4.size)) (fun k e => by cases e; rw [← hm]; exact hb1.size)
  have hM : Mid w (w4.putObj m (.map (oneE (runesBytes R0) 1 0) (0 + 1))) (w4.putObj m (.map (oneE (runesBytes R0) 1 0) (0 + 1))).heap.size d m 0 1 tv (.slice none 0 0) R0 :=
    ⟨hr3, HRA.out, by omega, by omega, hB3, Nat.le_refl _, R0, [], _, _, hd3, HRA.out, by omega, Nat.le_refl _, trivial, rfl, World.ownsRow_nil _ _ _ _⟩
  have hdm : d < (w4.putObj m (.map (oneE (runesBytes R0) 1 0) (0 + 1))).heap.size ∧ m < (w4.putObj m (.map (oneE (runesBytes R0) 1 0) (0 + 1))).heap.size := by
    refine ⟨World.block_lt_of_cell? _ _ hd3.cell, ?_⟩
    exact (Array.getElem?_eq_some_iff.1 hd3.map).1
  have hwm : w.heap.size ≤ m := by rw [← hm]; exact hb1.size
  obtain ⟨B, hB⟩ : ∃ B, (w4.putObj m (.map (oneE (runesBytes R0) 1 0) (0 + 1))).heap.size = B := ⟨_, rfl⟩
  rw [hB] at hM hdm
  have HM := Lib.hid hM
  have Hdm := Lib.hid (And.intro hdm.1 (And.intro hdm.2 hwm))
  clear hM hdm hwm hB hB3 hd3 hr3 hmap hg3 hd4 hd hm hb4 ht2 hr2 hb2 hd2 hb1 hr1 HP
  obtain ⟨N, hN⟩ : ∃ N, min L.length 12 = N := ⟨_, rfl⟩
  have HN := Lib.hid hN
  go_cut [7] from 9 (fun t w' => ∃ R, Hid (RunesAt w' t R ∧ (∀ c ∈ R, InA c) ∧ R.length ≤ 160 ∧ Below w.heap.size w w'))
  case first =>
    go_wp2_with fail
    go_loopg [7, 9, 10, 11] N (fun gk t s v i w' => ∃ (i0 : Nat) (vn : Int) (R : List Int), gk + i0 = N ∧ i = .int .i64 i0 ∧ v = .int .i64 vn ∧ Hid (Mid w w' B d m i0 vn t s R))
    case atStart => exact ⟨0, 1, R0, rfl, rfl, rfl, HM⟩
    case round =>
      obtain ⟨i0, vn, R, hgi, rfl, rfl, hM⟩ := hrel
      cases gk with
      | zero =>
        have hrest : ∃ R, Hid (RunesAt wr u7 R ∧ (∀ c ∈ R, InA c) ∧ R.length ≤ 160 ∧ Below w.heap.size w wr) := ⟨R, Lib.hid ⟨hM.out.text, hM.out.inA, by have := hM.out.len; omega, hM.out.below⟩⟩
        by_cases hiL : i0 < L.length
        · have hi12 : i0 = 12 := by omega
          subst hi12
          go_wp2
          go_meet
          exact hrest
        · have hiL2 : i0 = L.length := by omega
          subst hiL2
          go_wp2
          go_meet
          exact hrest
      | succ g =>
        have hiL : i0 < L.length := by omega
        have hi12 : i0 < 12 := by omega
        obtain ⟨x, hx⟩ : ∃ x, L[i0] = x := ⟨_, rfl⟩
        obtain ⟨b, o, hTy, hix⟩ := (Hl.out.below hM.out.below).index i0 hiL
        rw [hx] at hTy
        have hxL := HL.out _ (List.getElem_mem hiL)
        rw [hx] at hxL
        obtain ⟨hx1, hx2, hx3, hx4⟩ := hxL
        have hx0 := hTy.c0
        have hxx1 := hTy.c1
        obtain ⟨tx, hxx2, htx⟩ := hTy.c2
        obtain ⟨tA, tcap, htA⟩ : ∃ tA tcap, tx = .slice tA x.text.length tcap := ⟨_, _, htx.choose_spec.choose_spec.1⟩
        subst htA
        have hxx3 := hTy.c3
        have hxx4 := hTy.c4
        obtain ⟨k1, hk1⟩ : ∃ k1, min x.text.length 10 = k1 := ⟨_, rfl⟩
        have hmin1 : min (x.text.length : Int) 10 = (k1 : Int) := by omega
        obtain ⟨v2, hv2, hs2⟩ := htx.hi k1 (by omega)
        have hs2' : ∀ W : World, (Instr.slice 22 (.slice tA x.text.length tcap) none (some (.int .i64 (min (x.text.length : Int) 10))) none).run Tryd.prog W = .ok v2 W := by rw [hmin1]; exact hs2
        have htxl := htx.len
        obtain ⟨pu, hpu⟩ : ∃ pu, (x.text.take 10).map pick = pu := ⟨_, rfl⟩
        have hpu2 : (x.text.take k1).map pick = pu := by
          rw [← hk1, ← hpu]
          congr 1
          rcases Nat.le_total x.text.length 10 with h | h
          · rw [Nat.min_eq_left h, List.take_length, List.take_of_length_le h]
          · rw [Nat.min_eq_right h]
        have HP1 := Lib.hid (fun (W : World) (h : Below wr.heap.size wr W) => hpu2 ▸ plainRunes_any v2 (x.text.take k1) W (fun y hy => hx4 y (List.mem_of_mem_take hy)) (by rw [List.length_take]; omega) (hv2.below h))
        have hRl := hM.out.text.len
        have hRn := hM.out.len
        have Hx3 := Lib.hid hx3
        have Hx := Lib.hid hx
        have Hpu := Lib.hid hpu
        have Hk1 := Lib.hid hk1
        obtain ⟨a, ha⟩ : ∃ a : Nat, (a : Int) = x.frm % ((R.length : Int) + 1) := by
          have h1 := Int.emod_nonneg x.frm (show (R.length : Int) + 1 ≠ 0 by omega)
          exact ⟨(x.frm % ((R.length : Int) + 1)).toNat, by omega⟩
        have hfrm : Int.tmod x.frm ((R.length : Int) + 1) = (a : Int) := by rw [tmod_e _ _ hx1.1]; exact ha.symm
        have Ha := Lib.hid ha
        have hrl16 : R.length ≤ 160 := by omega
        clear hx4 hTy htx hs2 hpu2 hv2 hpu hx hmin1 hk1 ha
        go_upto_if 81 with (first
          | (go_at_call 4; refine (HP1.out _ ((Below.refl _ _).alloc (Nat.le_refl _) _)).mono ?_; rintro e w1 ⟨pv, rfl, hp1, hb1⟩; have htp := hp1.text; have hlt1 : wr.heap.size < w1.heap.size := Nat.lt_of_lt_of_le (by simp) hb1.size; have hcx := fun o => hb1.cell (p := ⟨wr.heap.size, o, none⟩) (by simp)))
        have hBx : Below wr.heap.size wr w1 := ((Below.refl _ _).alloc (Nat.le_refl _) _).trans (hb1.mono (by simp))
        have qx := fun i => (hcx i).trans (cellOf (World.alloc_heap_new wr (.cells #[.int .u16 x.frm, .int .u16 x.til, .slice tA x.text.length tcap, .int .u8 x.be, .bool x.whole] 33)) i)
        have qc0 := World.alloc_heap_new w1 (.cells #[.bool x.whole, .int .i64 0, .int .i64 0, .int .i64 0, .int .i64 0, .string (runesBytes pu)] 39)
        obtain ⟨W, hW⟩ : ∃ W, w1.alloc (.cells #[.bool x.whole, .int .i64 0, .int .i64 0, .int .i64 0, .int .i64 0, .string (runesBytes pu)] 39) = W := ⟨_, rfl⟩
        have hb2 : Below w1.heap.size w1 W := by rw [← hW]; exact (Below.refl _ _).alloc (Nat.le_refl _) _
        rw [hW] at qc0 ⊢
        have hBW : Below wr.heap.size wr W := hBx.trans (hb2.mono hBx.size)
        have qx1 := (hb2.cell (p := ⟨wr.heap.size, 1, none⟩) hlt1).trans (qx 1)
        have qx3 := (hb2.cell (p := ⟨wr.heap.size, 3, none⟩) hlt1).trans (qx 3)
        rw [← Hpu.out] at qc0 hp1
        apply s81 (R := R) (x := x) (a := a) (hR := hM.out.inA) (hRl := by omega) (ha := Ha.out) (ht := hx2) (hbe := Hx3.out) (hne := by omega) (hr := hM.out.text.below hBW) (hp := hp1.below hb2) (qx1 := qx1) (qx3 := qx3) (qc := qc0)
        intro e16 e17 e18 e19 e20 e82 e83 e84 e85 e86 e87 e88 e89 e90 e91 e92 e93 e94 e95 e96 e97 e98 e99 e100 e101 e102 e103 e104 e105 e106 e107 e108 e109 e110 e111 e112 e113 e114 e115 e116 e117 e118 e119 e120 e121 e122 e123 e124 e125 e126 e127 e128 e129 e130 e131 e132 e133 e134 e135 e136 e137 e138 e139 e140 e141 e142 e143 e144 e145 e146 e147 e148 e149 e150 e151 e152 e153 e154 e155 e156 e157 e158 e159 e160 t2 W2 hr2 hch hg2
        dsimp only
        obtain ⟨m1, m2, R1, chs, born, clk, d1, d2, d3, d4, d5, d6, d7⟩ := mid_on hM.out Hdm.out hBW (Nat.le_of_lt hlt1) hg2
        have hfit := fits_chgOf R x hM.out.inA Hx3.out
        have hver := hM.out.ver
        have hmem := mem_step hM.out.inA hfit
        have hle2 := len_step hfit
        have Hdm2 := Hdm.out
        rename_i h30
        apply h30
        apply only_block
        apply s30 (B := B) (d := d) (m := m) (i0 := i0) (R0 := R1) (R' := stepC R (chgOf R x)) (chs := chs) (cs := chs ++ [chgOf R x]) (c := chgOf R x) (hcs := rfl) (L := L) (w0 := w) (born := born) (clk := clk) (hi1 := hiL) (hi2 := hi12) (hllen := hllen) (hc16 := hc16) (htx := hr2) (hA := hmem) (hlen := by omega) (hver := hver) (hbel := m1) (hbase := m2) (hdm := ⟨Hdm2.1, Hdm2.2.1⟩) (hw0 := Hdm2.2.2) (hd := d1) (hA0 := d2) (hl0 := d3) (hcl := d4) (hfit := FitsAll.snoc d5 (by rw [d6]; exact hfit)) (hfold := by rw [List.foldl_append, d6]; rfl) (hown := d7) (hch := hch) (htabs := Ht.out)
        intro f6 f21 f22 f161 f162 f163 f164 f165 f166 f167 f168 f169 f170 f171 f172 f173 f174 f175 f176 f177 f178 f179 f180 f181 f182 f183 f184 f185 f186 f187 f188 f189 f190 f191 f192 f193 f194 f195 f196 f197 f198 f199 f200 f201 f202 f203 f204 s2 vn2 W3 hM3
        dsimp only
        have HM3 := Lib.hid hM3
        clear hM3 hr2 hch hg2 m1 m2 d1 d2 d3 d4 d5 d6 d7 hfit hver hmem hle2 Hdm2 qx1 qx3 qc0 qx hBx hBW hb2 hb1 hp1
        go_wp2
        go_roundg g
        case measure => omega
        case rel => exact ⟨i0 + 1, vn2, stepC R (chgOf R x), by omega, by simp, rfl, HM3⟩
  case rest =>
    obtain ⟨R, hR⟩ := hcut
    rename_i h39
    apply h39
    apply s39 (R := R) (w0 := w) (hR := hR.out.2.1) (hRl := by have := hR.out.2.2.1; omega) (hr := hR.out.1) (hbel := hR.out.2.2.2)

end Go.Proofs.YtppjpkkkogmhfaaDoor
