/- This text proves a part of emendtop.TopPlaced: one place of a typed change is told: the inner loop's round in function 3. Its conditions stand ahead of each theorem. -/
import Derived.Test.YtppjpkkkogmhfaaDoorN0
namespace Go.Proofs.YtppjpkkkogmhfaaDoor
open Go.RowKit Go.Shelf

def isBlock (n : Nat) : Code → Bool
  | .block k _ => k == n
  | _ => false
noncomputable def B3 : Code := (Tryd.f3.body.bind (findC (isBlock 3))).getD .skip

theorem tmod_e (a b : Int) (h : 0 ≤ a) : Int.tmod a b = a % b := Int.tmod_eq_emod_of_nonneg h
theorem tdiv_e (a b : Int) (h : 0 ≤ a) : Int.tdiv a b = a / b := Int.tdiv_eq_ediv_of_nonneg h

theorem grown_two {W w1 : World} (hb1 : Below W.heap.size W w1) (bc i k : Nat) (u v : Value) (o : Obj) : W.grownBy (((w1.setCell ⟨bc, i, none⟩ u).setCell ⟨bc, k, none⟩ v).alloc o) (some bc) := by
  refine ⟨hb1.os, hb1.tape, hb1.output, ?_, fun n hn hne => ?_⟩
  · have := hb1.size
    simp
    omega
  · have hnb : n ≠ bc := fun e => hne (by rw [e])
    have := hb1.size
    rw [Below.heap_alloc _ _ _ (by simp; omega), Below.heap_setCell _ _ _ _ hnb, Below.heap_setCell _ _ _ _ hnb]
    exact hb1.block n hn

theorem cells_congr {W : World} {b : Nat} {a a' : Array Value} (h : W.heap[b]? = some (.cells a 39 (0, 0))) (e : a = a') : W.heap[b]? = some (.cells a' 39 (0, 0)) := by rw [h, e]

set_option maxRecDepth 1000000 in
set_option maxHeartbeats 16000000 in
theorem b3 (x0 x1 x2 x3 x4 x5 x6 x8 x9 x10 x11 x13 x15 x16 x17 x18 x19 x20 x21 x22 x23 x24 x25 x26 x27 x28 x29 x30 x31 x32 x33 x34 x35 x36 x37 x38 x39 x40 x41 x42 x43 x44 x45 x46 x47 x48 x49 x50 x51 x52 x53 x54 x55 x56 x57 x58 x59 x60 x61 x62 x63 x64 x65 x66 x67 x68 x69 x70 x71 x72 x73 x74 x75 x76 x77 x78 x79 x80 x81 x82 x83 x84 x85 x86 x87 x88 x89 x90 x91 x92 x93 x94 x95 x100 x101 x102 x103 x104 x105 x106 x107 x108 x109 x110 x111 x112 x113 x114 x115 x116 x117 x118 x119 x120 x121 x122 x123 x124 x125 x126 x127 x128 x129 x130 x131 x132 x133 x134 x135 x136 x137 x138 x139 x140 x141 x142 x143 x144 x145 x146 x147 x148 x149 x150 x151 x152 x153 x154 x155 x156 x157 x158 x159 x160 x161 x162 x163 x164 x165 x166 x167 x168 x169 x170 x171 x172 x173 x174 x175 x176 x177 x178 x179 x180 x181 x182 x183 x184 x185 x186 x187 x188 x189 x190 x191 x192 x193 x194 x195 x196 x197 x198 x199 x200 x201 x202 x203 x204 x205 x206 x207 x208 x209 x210 x211 x212 x213 x214 x215 x216 x217 x218 x219 x220 x221 x222 x223 x224 x225 x226 x227 x228 x229 x230 x231 x232 x233 x234 x235 x236 x237 x238 x239 x240 x241 x242 x243 x244 x245 x246 x247 x248 x249 x250 x251 x252 x253 tv : Value) (bx bc sb j k : Nat) (hj : j = 0 ∨ j = 1) (R : List Int) (be l1 c1 l2 c2 : Int) (wh : Bool) (s : ByteArray) (W : World) (K : Act → World → Prop) (Q : Exit → Act → World → Prop)
    (hR : ∀ c ∈ R, InA c) (hRl : R.length ≤ 200) (hk : k ≤ R.length) (hbe : 0 ≤ be ∧ be < 256) (hr : RunesAt W tv R) (qx : W.cell? ⟨bx, 3, none⟩ = some (.int .u8 be)) (qs : W.cell? ⟨sb, j, none⟩ = some (.int .i64 k))
    (qc : W.heap[bc]? = some (.cells #[.bool wh, .int .i64 l1, .int .i64 c1, .int .i64 l2, .int .i64 c2, .string s] 39 (0, 0)))
    (hK : ∀ (y17 y18 y19 y20 y100 y101 y102 y103 y104 y105 y106 y107 y108 y109 y110 y111 y112 y113 y114 y115 y116 y117 y118 y119 y120 y121 y122 y123 y124 y125 y126 y127 y128 y129 y130 y131 y132 y133 y134 y135 y136 y137 y138 y139 y140 y141 y142 y143 y144 y145 y146 y147 y148 : Value) (W' : World), W.grownBy W' (some bc) →
      W'.heap[bc]? = some (.cells #[.bool wh, .int .i64 (if j = 0 then (told R be k).1 else l1), .int .i64 (if j = 0 then (told R be k).2 else c1), .int .i64 (if j = 0 then l2 else (told R be k).1), .int .i64 (if j = 0 then c2 else (told R be k).2), .string s] 39 (0, 0)) → K ⟨#[x0, x1, x2, x3, x4, x5, x6, tv, x8, x9, x10, x11, .pointer (some ⟨bx, 0, none⟩), x13, .pointer (some ⟨bc, 0, none⟩), x15, x16, y17, y18, y19, y20, x21, x22, x23, x24, x25, x26, x27, x28, x29, x30, x31, x32, x33, x34, x35, x36, x37, x38, x39, x40, x41, x42, x43, x44, x45, x46, x47, x48, x49, x50, x51, x52, x53, x54, x55, x56, x57, x58, x59, x60, x61, x62, x63, x64, x65, x66, x67, x68, x69, x70, x71, x72, x73, x74, x75, x76, x77, x78, x79, x80, x81, x82, x83, x84, x85, x86, x87, x88, x89, x90, x91, x92, x93, x94, x95, .slice (some ⟨sb, 0, none⟩) 2 2, .int .i64 2, .int .i64 (j : Int), .bool true, y100, y101, y102, y103, y104, y105, y106, y107, y108, y109, y110, y111, y112, y113, y114, y115, y116, y117, y118, y119, y120, y121, y122, y123, y124, y125, y126, y127, y128, y129, y130, y131, y132, y133, y134, y135, y136, y137, y138, y139, y140, y141, y142, y143, y144, y145, y146, y147, y148, x149, x150, x151, x152, x153, x154, x155, x156, x157, x158, x159, x160, x161, x162, x163, x164, x165, x166, x167, x168, x169, x170, x171, x172, x173, x174, x175, x176, x177, x178, x179, x180, x181, x182, x183, x184, x185, x186, x187, x188, x189, x190, x191, x192, x193, x194, x195, x196, x197, x198, x199, x200, x201, x202, x203, x204, x205, x206, x207, x208, x209, x210, x211, x212, x213, x214, x215, x216, x217, x218, x219, x220, x221, x222, x223, x224, x225, x226, x227, x228, x229, x230, x231, x232, x233, x234, x235, x236, x237, x238, x239, x240, x241, x242, x243, x244, x245, x246, x247, x248, x249, x250, x251, x252, x253], []⟩ W') :
    Code.wp Tryd.prog B3 (Exit.then K Q) ⟨#[x0, x1, x2, x3, x4, x5, x6, tv, x8, x9, x10, x11, .pointer (some ⟨bx, 0, none⟩), x13, .pointer (some ⟨bc, 0, none⟩), x15, x16, x17, x18, x19, x20, x21, x22, x23, x24, x25, x26, x27, x28, x29, x30, x31, x32, x33, x34, x35, x36, x37, x38, x39, x40, x41, x42, x43, x44, x45, x46, x47, x48, x49, x50, x51, x52, x53, x54, x55, x56, x57, x58, x59, x60, x61, x62, x63, x64, x65, x66, x67, x68, x69, x70, x71, x72, x73, x74, x75, x76, x77, x78, x79, x80, x81, x82, x83, x84, x85, x86, x87, x88, x89, x90, x91, x92, x93, x94, x95, .slice (some ⟨sb, 0, none⟩) 2 2, .int .i64 2, .int .i64 (j : Int), .bool true, x100, x101, x102, x103, x104, x105, x106, x107, x108, x109, x110, x111, x112, x113, x114, x115, x116, x117, x118, x119, x120, x121, x122, x123, x124, x125, x126, x127, x128, x129, x130, x131, x132, x133, x134, x135, x136, x137, x138, x139, x140, x141, x142, x143, x144, x145, x146, x147, x148, x149, x150, x151, x152, x153, x154, x155, x156, x157, x158, x159, x160, x161, x162, x163, x164, x165, x166, x167, x168, x169, x170, x171, x172, x173, x174, x175, x176, x177, x178, x179, x180, x181, x182, x183, x184, x185, x186, x187, x188, x189, x190, x191, x192, x193, x194, x195, x196, x197, x198, x199, x200, x201, x202, x203, x204, x205, x206, x207, x208, x209, x210, x211, x212, x213, x214, x215, x216, x217, x218, x219, x220, x221, x222, x223, x224, x225, x226, x227, x228, x229, x230, x231, x232, x233, x234, x235, x236, x237, x238, x239, x240, x241, x242, x243, x244, x245, x246, x247, x248, x249, x250, x251, x252, x253], []⟩ W := by
  conv => arg 2; whnf
  have hu33 := Tryd.underlying33
  have hu35 := Tryd.underlying35
  have hu37 := Tryd.underlying37
  have hu39 := Tryd.underlying39
  have hrl := hr.len
  have hpb := posOf_bounds (R.take k).length (R.take k) rfl (fun c hc => hR c (List.mem_of_mem_take hc))
  have htk : (R.take k).length ≤ 200 := by rw [List.length_take]; omega
  obtain ⟨pl, hpl⟩ : ∃ pl, (posOf (R.take k)).1 = pl := ⟨_, rfl⟩
  obtain ⟨pc, hpc⟩ : ∃ pc, (posOf (R.take k)).2.1 = pc := ⟨_, rfl⟩
  have HA := Lib.hid (plainAt_any tv R hR (by omega) k hk W hr)
  obtain ⟨pb, hpb2⟩ : ∃ pb, (posOf (R.take k)).2.2 = pb := ⟨_, rfl⟩
  have hltx := World.block_lt_of_cell? W _ qx
  have hlts := World.block_lt_of_cell? W _ qs
  have hltc := (Array.getElem?_eq_some_iff.1 qc).1
  have d1 := tmod_e be 2 hbe.1
  have d2 := tdiv_e be 2 hbe.1
  have d3 := tmod_e (be / 2) 4 (by omega)
  obtain ⟨e2, he2⟩ : ∃ e2, be % 2 = e2 := ⟨_, rfl⟩
  obtain ⟨e4, he4⟩ : ∃ e4, be / 2 % 4 = e4 := ⟨_, rfl⟩
  obtain ⟨e3, he3⟩ : ∃ e3, be / 2 = e3 := ⟨_, rfl⟩
  have he2b : 0 ≤ e2 ∧ e2 < 2 := by omega
  have he4b : 0 ≤ e4 ∧ e4 < 4 := by omega
  have he3b : 0 ≤ e3 ∧ e3 < 128 := by omega
  have htold : told R be k = (pl + (if k = R.length then e2 else 0), pc + (if k = R.length ∨ R[k]? = some 10 then e4 else 0)) := by unfold told; rw [hpl, hpc, he2, he4]
  rw [hpl, hpc] at hpb
  rw [hpl, hpc, hpb2] at HA
  rw [he2] at d1
  rw [he3] at d2 d3
  rw [he3] at he4
  rw [he4] at d3
  have Hr := Lib.hid hr
  have HR := Lib.hid hR
  have Htold := Lib.hid htold
  have HpK := Lib.hid hK
  clear hr hR hK htold hpl hpc hpb2 he2 he4 he3
  rcases hj with rfl | rfl
  · by_cases hkl : k = R.length
    · subst hkl
      rw [if_pos rfl, if_pos (.inl rfl)] at Htold
      go_wp2_with (first
        | (go_at_call 7; refine HA.out.mono ?_; rintro e w1 ⟨rfl, hb1⟩; have hsz1 := hb1.size; have ux := (hb1.cell (p := ⟨bx, 3, none⟩) hltx).trans qx; have uc := (hb1.block bc hltc).trans qc; have uc0 := cellOf uc; have uf0 := freeOf uc; have hltx1 := Nat.lt_of_lt_of_le hltx hsz1; have hltc1 := Nat.lt_of_lt_of_le hltc hsz1))
      apply HpK.out
      · exact grown_two hb1 _ _ _ _ _ _
      · rw [Below.heap_alloc _ _ _ (by simp; omega)]
        refine cells_congr (blkSet (blkSet uc _ _) _ _) ?_
        simp [Htold.out]
    · have hkl2 : k < R.length := by omega
      obtain ⟨bi, oi, hci, hii⟩ := Hr.out.index k hkl2
      have hlti := World.block_lt_of_cell? W _ hci
      have hkl3 : ¬ (k : Int) = (R.length : Int) := by omega
      obtain ⟨c, hc⟩ : ∃ c, R[k] = c := ⟨_, rfl⟩
      rw [hc] at hci
      rw [if_neg hkl, List.getElem?_eq_getElem hkl2, hc] at Htold
      have Hc := Lib.hid hc
      clear hc
      by_cases h10 : c = 10
      · subst h10
        rw [if_pos (.inr rfl), Int.add_zero] at Htold
        go_wp2_with (first
          | (go_at_call 7; refine HA.out.mono ?_; rintro e w1 ⟨rfl, hb1⟩; have hsz1 := hb1.size; have ux := (hb1.cell (p := ⟨bx, 3, none⟩) hltx).trans qx; have uc := (hb1.block bc hltc).trans qc; have uc0 := cellOf uc; have uf0 := freeOf uc; have hltx1 := Nat.lt_of_lt_of_le hltx hsz1; have hltc1 := Nat.lt_of_lt_of_le hltc hsz1; have ui := (hb1.cell (p := ⟨bi, oi, none⟩) hlti).trans hci; have hlti1 := Nat.lt_of_lt_of_le hlti hsz1))
        apply HpK.out
        · exact grown_two hb1 _ _ _ _ _ _
        · rw [Below.heap_alloc _ _ _ (by simp; omega)]
          refine cells_congr (blkSet (blkSet uc _ _) _ _) ?_
          simp [Htold.out]
      · rw [if_neg (by rintro (h | h); exact hkl h; exact h10 (Option.some.inj h)), Int.add_zero, Int.add_zero] at Htold
        go_wp2_with (first
          | (go_at_call 7; refine HA.out.mono ?_; rintro e w1 ⟨rfl, hb1⟩; have hsz1 := hb1.size; have ux := (hb1.cell (p := ⟨bx, 3, none⟩) hltx).trans qx; have uc := (hb1.block bc hltc).trans qc; have uc0 := cellOf uc; have uf0 := freeOf uc; have hltx1 := Nat.lt_of_lt_of_le hltx hsz1; have hltc1 := Nat.lt_of_lt_of_le hltc hsz1; have ui := (hb1.cell (p := ⟨bi, oi, none⟩) hlti).trans hci; have hlti1 := Nat.lt_of_lt_of_le hlti hsz1))
        apply HpK.out
        · exact grown_two hb1 _ _ _ _ _ _
        · rw [Below.heap_alloc _ _ _ (by simp; omega)]
          refine cells_congr (blkSet (blkSet uc _ _) _ _) ?_
          simp [Htold.out]
  · by_cases hkl : k = R.length
    · subst hkl
      rw [if_pos rfl, if_pos (.inl rfl)] at Htold
      go_wp2_with (first
        | (go_at_call 7; refine HA.out.mono ?_; rintro e w1 ⟨rfl, hb1⟩; have hsz1 := hb1.size; have ux := (hb1.cell (p := ⟨bx, 3, none⟩) hltx).trans qx; have uc := (hb1.block bc hltc).trans qc; have uc0 := cellOf uc; have uf0 := freeOf uc; have hltx1 := Nat.lt_of_lt_of_le hltx hsz1; have hltc1 := Nat.lt_of_lt_of_le hltc hsz1))
      apply HpK.out
      · exact grown_two hb1 _ _ _ _ _ _
      · rw [Below.heap_alloc _ _ _ (by simp; omega)]
        refine cells_congr (blkSet (blkSet uc _ _) _ _) ?_
        simp [Htold.out]
    · have hkl2 : k < R.length := by omega
      obtain ⟨bi, oi, hci, hii⟩ := Hr.out.index k hkl2
      have hlti := World.block_lt_of_cell? W _ hci
      have hkl3 : ¬ (k : Int) = (R.length : Int) := by omega
      obtain ⟨c, hc⟩ : ∃ c, R[k] = c := ⟨_, rfl⟩
      rw [hc] at hci
      rw [if_neg hkl, List.getElem?_eq_getElem hkl2, hc] at Htold
      have Hc := Lib.hid hc
      clear hc
      by_cases h10 : c = 10
      · subst h10
        rw [if_pos (.inr rfl), Int.add_zero] at Htold
        go_wp2_with (first
          | (go_at_call 7; refine HA.out.mono ?_; rintro e w1 ⟨rfl, hb1⟩; have hsz1 := hb1.size; have ux := (hb1.cell (p := ⟨bx, 3, none⟩) hltx).trans qx; have uc := (hb1.block bc hltc).trans qc; have uc0 := cellOf uc; have uf0 := freeOf uc; have hltx1 := Nat.lt_of_lt_of_le hltx hsz1; have hltc1 := Nat.lt_of_lt_of_le hltc hsz1; have ui := (hb1.cell (p := ⟨bi, oi, none⟩) hlti).trans hci; have hlti1 := Nat.lt_of_lt_of_le hlti hsz1))
        apply HpK.out
        · exact grown_two hb1 _ _ _ _ _ _
        · rw [Below.heap_alloc _ _ _ (by simp; omega)]
          refine cells_congr (blkSet (blkSet uc _ _) _ _) ?_
          simp [Htold.out]
      · rw [if_neg (by rintro (h | h); exact hkl h; exact h10 (Option.some.inj h)), Int.add_zero, Int.add_zero] at Htold
        go_wp2_with (first
          | (go_at_call 7; refine HA.out.mono ?_; rintro e w1 ⟨rfl, hb1⟩; have hsz1 := hb1.size; have ux := (hb1.cell (p := ⟨bx, 3, none⟩) hltx).trans qx; have uc := (hb1.block bc hltc).trans qc; have uc0 := cellOf uc; have uf0 := freeOf uc; have hltx1 := Nat.lt_of_lt_of_le hltx hsz1; have hltc1 := Nat.lt_of_lt_of_le hltc hsz1; have ui := (hb1.cell (p := ⟨bi, oi, none⟩) hlti).trans hci; have hlti1 := Nat.lt_of_lt_of_le hlti hsz1))
        apply HpK.out
        · exact grown_two hb1 _ _ _ _ _ _
        · rw [Below.heap_alloc _ _ _ (by simp; omega)]
          refine cells_congr (blkSet (blkSet uc _ _) _ _) ?_
          simp [Htold.out]

end Go.Proofs.YtppjpkkkogmhfaaDoor
