/- This text proves a part of emendtop.TopPlaced: both places of a typed change are told: the inner loop in function 3. Its conditions stand ahead of each theorem. -/
import Derived.Test.YtppjpkkkogmhfaaDoorN2
namespace Go.Proofs.YtppjpkkkogmhfaaDoor
open Go.RowKit Go.Shelf

def isSeqReg1 (n : Nat) : Code → Bool
  | .seq (.region k _ _) _ => k == n
  | _ => false
noncomputable def S17 : Code := (Tryd.f3.body.bind (findC (isSeqReg1 17))).getD .skip

theorem grown_alloc (W : World) (o : Obj) (row : Option Nat) : W.grownBy (W.alloc o) row :=
  (grown_of_below ((Below.refl _ _).alloc (Nat.le_refl _) o)).but row

theorem not21 {w : World} {b : Nat} {cs : Array Value} {fz : Nat × Nat} (h : w.heap[b]? = some (.cells cs 39 fz)) : ∀ k, some b = some k → ∀ cs' fz', w.heap[k]? ≠ some (.cells cs' 21 fz') := by
  intro k e cs' fz' h'
  cases e
  rw [h] at h'
  simp at h'

set_option maxRecDepth 1000000 in
set_option maxHeartbeats 16000000 in
theorem s17 (x0 x1 x2 x3 x4 x5 x6 x8 x9 x10 x11 x13 x17 x18 x19 x20 x21 x22 x23 x24 x25 x26 x27 x28 x29 x30 x31 x32 x33 x34 x35 x36 x37 x38 x39 x40 x41 x42 x43 x44 x45 x46 x47 x48 x49 x50 x51 x52 x53 x54 x55 x56 x57 x58 x59 x60 x61 x62 x63 x64 x65 x66 x67 x68 x69 x70 x71 x72 x73 x74 x75 x76 x77 x78 x79 x80 x81 x82 x83 x84 x85 x86 x87 x88 x89 x90 x91 x92 x93 x94 x95 x96 x97 x98 x99 x100 x101 x102 x103 x104 x105 x106 x107 x108 x109 x110 x111 x112 x113 x114 x115 x116 x117 x118 x119 x120 x121 x122 x123 x124 x125 x126 x127 x128 x129 x130 x131 x132 x133 x134 x135 x136 x137 x138 x139 x140 x141 x142 x143 x144 x145 x146 x147 x148 x149 x150 x151 x152 x153 x154 x155 x156 x157 x158 x159 x160 x161 x162 x163 x164 x165 x166 x167 x168 x169 x170 x171 x172 x173 x174 x175 x176 x177 x178 x179 x180 x181 x182 x183 x184 x185 x186 x187 x188 x189 x190 x191 x192 x193 x194 x195 x196 x197 x198 x199 x200 x201 x202 x203 x204 x205 x206 x207 x208 x209 x210 x211 x212 x213 x214 x215 x216 x217 x218 x219 x220 x221 x222 x223 x224 x225 x226 x227 x228 x229 x230 x231 x232 x233 x234 x235 x236 x237 x238 x239 x240 x241 x242 x243 x244 x245 x246 x247 x248 x249 x250 x251 x252 x253 tv : Value) (bx bc a b : Nat) (R : List Int) (be : Int) (wh : Bool) (s : ByteArray) (W : World) (K : Act → World → Prop) (Q : Exit → Act → World → Prop)
    (hR : ∀ c ∈ R, InA c) (hRl : R.length ≤ 200) (ha : a ≤ R.length) (hb : b ≤ R.length) (hbe : 0 ≤ be ∧ be < 256) (hr : RunesAt W tv R) (qx : W.cell? ⟨bx, 3, none⟩ = some (.int .u8 be)) (hne : bx ≠ bc)
    (qc : W.heap[bc]? = some (.cells #[.bool wh, .int .i64 0, .int .i64 0, .int .i64 0, .int .i64 0, .string s] 39 (0, 0)))
    (hK : ∀ (y17 y18 y19 y20 y94 y95 y96 y97 y98 y99 y100 y101 y102 y103 y104 y105 y106 y107 y108 y109 y110 y111 y112 y113 y114 y115 y116 y117 y118 y119 y120 y121 y122 y123 y124 y125 y126 y127 y128 y129 y130 y131 y132 y133 y134 y135 y136 y137 y138 y139 y140 y141 y142 y143 y144 y145 y146 y147 y148 y149 : Value) (W' : World), W.grownBy W' (some bc) →
      W'.heap[bc]? = some (.cells #[.bool wh, .int .i64 (told R be a).1, .int .i64 (told R be a).2, .int .i64 (told R be b).1, .int .i64 (told R be b).2, .string s] 39 (0, 0)) → K ⟨#[x0, x1, x2, x3, x4, x5, x6, tv, x8, x9, x10, x11, .pointer (some ⟨bx, 0, none⟩), x13, .pointer (some ⟨bc, 0, none⟩), .int .i64 (a : Int), .int .i64 (b : Int), y17, y18, y19, y20, x21, x22, x23, x24, x25, x26, x27, x28, x29, x30, x31, x32, x33, x34, x35, x36, x37, x38, x39, x40, x41, x42, x43, x44, x45, x46, x47, x48, x49, x50, x51, x52, x53, x54, x55, x56, x57, x58, x59, x60, x61, x62, x63, x64, x65, x66, x67, x68, x69, x70, x71, x72, x73, x74, x75, x76, x77, x78, x79, x80, x81, x82, x83, x84, x85, x86, x87, x88, x89, x90, x91, x92, x93, y94, y95, y96, y97, y98, y99, y100, y101, y102, y103, y104, y105, y106, y107, y108, y109, y110, y111, y112, y113, y114, y115, y116, y117, y118, y119, y120, y121, y122, y123, y124, y125, y126, y127, y128, y129, y130, y131, y132, y133, y134, y135, y136, y137, y138, y139, y140, y141, y142, y143, y144, y145, y146, y147, y148, y149, x150, x151, x152, x153, x154, x155, x156, x157, x158, x159, x160, x161, x162, x163, x164, x165, x166, x167, x168, x169, x170, x171, x172, x173, x174, x175, x176, x177, x178, x179, x180, x181, x182, x183, x184, x185, x186, x187, x188, x189, x190, x191, x192, x193, x194, x195, x196, x197, x198, x199, x200, x201, x202, x203, x204, x205, x206, x207, x208, x209, x210, x211, x212, x213, x214, x215, x216, x217, x218, x219, x220, x221, x222, x223, x224, x225, x226, x227, x228, x229, x230, x231, x232, x233, x234, x235, x236, x237, x238, x239, x240, x241, x242, x243, x244, x245, x246, x247, x248, x249, x250, x251, x252, x253], []⟩ W') :
    Code.wp Tryd.prog S17 (Exit.then K Q) ⟨#[x0, x1, x2, x3, x4, x5, x6, tv, x8, x9, x10, x11, .pointer (some ⟨bx, 0, none⟩), x13, .pointer (some ⟨bc, 0, none⟩), .int .i64 (a : Int), .int .i64 (b : Int), x17, x18, x19, x20, x21, x22, x23, x24, x25, x26, x27, x28, x29, x30, x31, x32, x33, x34, x35, x36, x37, x38, x39, x40, x41, x42, x43, x44, x45, x46, x47, x48, x49, x50, x51, x52, x53, x54, x55, x56, x57, x58, x59, x60, x61, x62, x63, x64, x65, x66, x67, x68, x69, x70, x71, x72, x73, x74, x75, x76, x77, x78, x79, x80, x81, x82, x83, x84, x85, x86, x87, x88, x89, x90, x91, x92, x93, x94, x95, x96, x97, x98, x99, x100, x101, x102, x103, x104, x105, x106, x107, x108, x109, x110, x111, x112, x113, x114, x115, x116, x117, x118, x119, x120, x121, x122, x123, x124, x125, x126, x127, x128, x129, x130, x131, x132, x133, x134, x135, x136, x137, x138, x139, x140, x141, x142, x143, x144, x145, x146, x147, x148, x149, x150, x151, x152, x153, x154, x155, x156, x157, x158, x159, x160, x161, x162, x163, x164, x165, x166, x167, x168, x169, x170, x171, x172, x173, x174, x175, x176, x177, x178, x179, x180, x181, x182, x183, x184, x185, x186, x187, x188, x189, x190, x191, x192, x193, x194, x195, x196, x197, x198, x199, x200, x201, x202, x203, x204, x205, x206, x207, x208, x209, x210, x211, x212, x213, x214, x215, x216, x217, x218, x219, x220, x221, x222, x223, x224, x225, x226, x227, x228, x229, x230, x231, x232, x233, x234, x235, x236, x237, x238, x239, x240, x241, x242, x243, x244, x245, x246, x247, x248, x249, x250, x251, x252, x253], []⟩ W := by
  conv => arg 2; whnf
  have hltx := World.block_lt_of_cell? W _ qx
  have hltc := (Array.getElem?_eq_some_iff.1 qc).1
  obtain ⟨W1, hW1⟩ : ∃ W1, W.alloc (.cells #[.int .i64 (a : Int), .int .i64 (b : Int)] 3) = W1 := ⟨_, rfl⟩
  have g1 : W.grownBy W1 (some bc) := by rw [← hW1]; exact grown_alloc _ _ _
  have g0 : Below W.heap.size W W1 := by rw [← hW1]; exact (Below.refl _ _).alloc (Nat.le_refl _) _
  have hs0 : W1.heap[W.heap.size]? = some (.cells #[.int .i64 (a : Int), .int .i64 (b : Int)] 3 (0, 0)) := by rw [← hW1]; exact World.alloc_heap_new W _
  have hr1 := hr.below g0
  have qx1 := (g0.cell (p := ⟨bx, 3, none⟩) hltx).trans qx
  have qc1 := (g0.block bc hltc).trans qc
  have hsb : W.heap.size ≠ bc := by omega
  have HpK := Lib.hid hK
  have Hr1 := Lib.hid hr1
  have HR := Lib.hid hR
  have G1 := Lib.hid g1
  clear hr hr1 hR hK g0 g1 qx qc
  go_upto_block 2 with fail
  try rw [hW1]
  go_step
  refine wp_loop_rounds 3 ?_
  rw [rounds_succ]
  go_upto_block 3 with fail
  apply b3 (j := 0) (k := a) (R := R) (be := be) (hj := .inl rfl) (hR := HR.out) (hRl := hRl) (hk := ha) (hbe := hbe) (hr := Hr1.out) (qx := qx1) (qs := cellOf hs0 0) (qc := qc1)
  intro z17 z18 z19 z20 z100 z101 z102 z103 z104 z105 z106 z107 z108 z109 z110 z111 z112 z113 z114 z115 z116 z117 z118 z119 z120 z121 z122 z123 z124 z125 z126 z127 z128 z129 z130 z131 z132 z133 z134 z135 z136 z137 z138 z139 z140 z141 z142 z143 z144 z145 z146 z147 z148 W2 hg2 hc2
  dsimp only
  simp only [if_pos, reduceIte] at hc2
  have g2 := G1.out.trans hg2
  have G2 := Lib.hid g2
  have hr2 := Hr1.out.grown hg2 (not21 qc1)
  have Hr2 := Lib.hid hr2
  have qx2 := hg2.cell qx1 (by simpa using hne)
  have hs2 := hg2.cell (a := ⟨W.heap.size, 1, none⟩) (cellOf hs0 1) (by simpa using hsb)
  clear hg2 g2 hr2 qx1 qc1 hs0 hW1
  go_upto_block 3 with fail
  rw [rounds_succ]
  go_upto_block 3 with fail
  apply b3 (j := 1) (k := b) (R := R) (be := be) (hj := .inr rfl) (hR := HR.out) (hRl := hRl) (hk := hb) (hbe := hbe) (hr := Hr2.out) (qx := qx2) (qs := hs2) (qc := hc2)
  intro v17 v18 v19 v20 v100 v101 v102 v103 v104 v105 v106 v107 v108 v109 v110 v111 v112 v113 v114 v115 v116 v117 v118 v119 v120 v121 v122 v123 v124 v125 v126 v127 v128 v129 v130 v131 v132 v133 v134 v135 v136 v137 v138 v139 v140 v141 v142 v143 v144 v145 v146 v147 v148 W3 hg3 hc3
  dsimp only
  simp only [Nat.one_ne_zero, reduceIte] at hc3
  have g3 := G2.out.trans hg3
  clear hg3 qx2 hs2 hc2
  go_upto_block 3 with fail
  rw [rounds_succ]
  go_wp2
  apply HpK.out
  · exact g3
  · exact hc3

end Go.Proofs.YtppjpkkkogmhfaaDoor
