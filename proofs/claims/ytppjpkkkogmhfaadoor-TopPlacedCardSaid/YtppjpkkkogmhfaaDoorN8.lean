/- This text proves a part of emendtop.TopPlaced: all places are looked at: the end of function 3. Its conditions stand ahead of each theorem. -/
import Derived.Test.YtppjpkkkogmhfaaDoorN7
namespace Go.Proofs.YtppjpkkkogmhfaaDoor
open Go.RowKit Go.Shelf

set_option maxRecDepth 1000000 in
set_option maxHeartbeats 16000000 in
theorem s39 (x0 x1 x2 x3 x4 x5 x6 x8 x9 x10 x11 x12 x13 x14 x15 x16 x17 x18 x19 x20 x21 x22 x23 x24 x25 x26 x27 x28 x29 x30 x31 x32 x33 x34 x35 x36 x37 x38 x39 x40 x41 x42 x43 x44 x45 x46 x47 x48 x49 x50 x51 x52 x53 x54 x55 x56 x57 x58 x59 x60 x61 x62 x63 x64 x65 x66 x67 x68 x69 x70 x71 x72 x73 x74 x75 x76 x77 x78 x79 x80 x81 x82 x83 x84 x85 x86 x87 x88 x89 x90 x91 x92 x93 x94 x95 x96 x97 x98 x99 x100 x101 x102 x103 x104 x105 x106 x107 x108 x109 x110 x111 x112 x113 x114 x115 x116 x117 x118 x119 x120 x121 x122 x123 x124 x125 x126 x127 x128 x129 x130 x131 x132 x133 x134 x135 x136 x137 x138 x139 x140 x141 x142 x143 x144 x145 x146 x147 x148 x149 x150 x151 x152 x153 x154 x155 x156 x157 x158 x159 x160 x161 x162 x163 x164 x165 x166 x167 x168 x169 x170 x171 x172 x173 x174 x175 x176 x177 x178 x179 x180 x181 x182 x183 x184 x185 x186 x187 x188 x189 x190 x191 x192 x193 x194 x195 x196 x197 x198 x199 x200 x201 x202 x203 x204 x205 x206 x207 x208 x209 x210 x211 x212 x213 x214 x215 x216 x217 x218 x219 x220 x221 x222 x223 x224 x225 x226 x227 x228 x229 x230 x231 x232 x233 x234 x235 x236 x237 x238 x239 x240 x241 x242 x243 x244 x245 x246 x247 x248 x249 x250 x251 x252 x253 tv : Value) (R : List Int) (w0 W : World)
    (hR : ∀ c ∈ R, InA c) (hRl : R.length ≤ 200) (hr : RunesAt W tv R) (hbel : Below w0.heap.size w0 W) :
    Code.wp Tryd.prog S39 (bodyPost Tryd.prog Tryd.f3 fun e w' => e = .returned (.bool true) ∧ Below w0.heap.size w0 w') ⟨#[x0, x1, x2, x3, x4, x5, x6, tv, x8, x9, x10, x11, x12, x13, x14, x15, x16, x17, x18, x19, x20, x21, x22, x23, x24, x25, x26, x27, x28, x29, x30, x31, x32, x33, x34, x35, x36, x37, x38, x39, x40, x41, x42, x43, x44, x45, x46, x47, x48, x49, x50, x51, x52, x53, x54, x55, x56, x57, x58, x59, x60, x61, x62, x63, x64, x65, x66, x67, x68, x69, x70, x71, x72, x73, x74, x75, x76, x77, x78, x79, x80, x81, x82, x83, x84, x85, x86, x87, x88, x89, x90, x91, x92, x93, x94, x95, x96, x97, x98, x99, x100, x101, x102, x103, x104, x105, x106, x107, x108, x109, x110, x111, x112, x113, x114, x115, x116, x117, x118, x119, x120, x121, x122, x123, x124, x125, x126, x127, x128, x129, x130, x131, x132, x133, x134, x135, x136, x137, x138, x139, x140, x141, x142, x143, x144, x145, x146, x147, x148, x149, x150, x151, x152, x153, x154, x155, x156, x157, x158, x159, x160, x161, x162, x163, x164, x165, x166, x167, x168, x169, x170, x171, x172, x173, x174, x175, x176, x177, x178, x179, x180, x181, x182, x183, x184, x185, x186, x187, x188, x189, x190, x191, x192, x193, x194, x195, x196, x197, x198, x199, x200, x201, x202, x203, x204, x205, x206, x207, x208, x209, x210, x211, x212, x213, x214, x215, x216, x217, x218, x219, x220, x221, x222, x223, x224, x225, x226, x227, x228, x229, x230, x231, x232, x233, x234, x235, x236, x237, x238, x239, x240, x241, x242, x243, x244, x245, x246, x247, x248, x249, x250, x251, x252, x253], []⟩ W := by
  conv => arg 2; whnf
  have hu35 := Tryd.underlying35
  have hrl := hr.len
  have hpb := posOf_bounds R.length R rfl hR
  have hct := count_pos R
  obtain ⟨pl, hpl⟩ : ∃ pl, (posOf R).1 = pl := ⟨_, rfl⟩
  obtain ⟨pc, hpc⟩ : ∃ pc, (posOf R).2.1 = pc := ⟨_, rfl⟩
  obtain ⟨pb, hpb2⟩ : ∃ pb, (posOf R).2.2 = pb := ⟨_, rfl⟩
  have HA := Lib.hid (fun (w : World) (h : RunesAt w tv R) => plainAt_any tv R hR (by omega) R.length (Nat.le_refl _) w h)
  rw [List.take_length, hpl, hpc, hpb2] at HA
  rw [hpl] at hct
  rw [hpl, hpc, hpb2] at hpb
  have hsz := size_list _ _ (runes_toList R)
  have hbl := bs_length_le R hR
  have HC := Lib.hid (fun w => count_any (runesBytes R) R (runes_toList R) hR (by omega) (by omega) w)
  rw [hct] at HC
  have Hr := Lib.hid hr
  have HR := Lib.hid hR
  have Hbel := Lib.hid hbel
  clear hr hR hbel hct hpl hpc hpb2
  go_upto_block 4 with fail
  go_step
  go_loopg [208] (R.length + 1) (fun gk i w' => ∃ k : Nat, gk + k = R.length + 1 ∧ i = .int .i64 k ∧ Below W.heap.size W w')
  case atStart => exact ⟨0, rfl, rfl, Below.refl _ _⟩
  case round =>
    obtain ⟨k, hgk, rfl, hB⟩ := hrel
    cases gk with
    | zero =>
      have hk : k = R.length + 1 := by omega
      subst hk
      have Hr1 := Lib.hid (Hr.out.below hB)
      have B1 := Lib.hid (Hbel.out.trans (hB.mono Hbel.out.size))
      clear hB
      go_upto_region 48 with (first
        | (go_at_call 7; refine (HA.out _ Hr1.out).mono ?_; rintro e w1 ⟨rfl, hb1⟩))
      have hsz1 := hb1.size
      have n0 := World.alloc_heap_new w1 (.cells #[.int .i64 pl, .int .i64 pc] 35)
      obtain ⟨w2, hw2⟩ : ∃ w2, w1.alloc (.cells #[.int .i64 pl, .int .i64 pc] 35) = w2 := ⟨_, rfl⟩
      have hb2 : Below w1.heap.size w1 w2 := by rw [← hw2]; exact (Below.refl _ _).alloc (Nat.le_refl _) _
      have hlt : w1.heap.size < w2.heap.size := by rw [← hw2]; simp
      rw [hw2] at n0
      have q0 : w2.drew.cell? ⟨w1.heap.size, 0, none⟩ = some (.int .i64 pl) := cellOf n0 0
      have r2 := (Hr1.out.below hb1).below hb2
      have q2 := (r2.below ((Below.refl _ _).drew)).text
      have B2 := Lib.hid ((B1.out.trans (hb1.mono B1.out.size)).trans (hb2.mono (Nat.le_trans B1.out.size hsz1))).drew
      have R2 := Lib.hid (r2.below ((Below.refl _ _).drew))
      clear n0 r2 hb2 hb1
      rw [hw2]
      clear hw2
      go_region_held3 (fun w' : World => w'.cell? ⟨w1.heap.size, 0, none⟩ = some (.int .i64 pl) ∧ (convert 25 9 tv).run Tryd.prog w' = .ok (.string (runesBytes R)) w') (first | exact ⟨q0, q2⟩ | exact ⟨q0', q2'⟩) (first | (go_at_call 12; refine (HC.out _).mono ?_; rintro e w5 ⟨rfl, hb5⟩; have q0' := (hb5.cell (p := ⟨w1.heap.size, 0, none⟩) hlt).trans q0; have q2' := (R2.out.below hb5).text))
      all_goals
        go_wp2
        go_ret
        exact ⟨by simp; exact (IntWalk.i64_in _ (by omega)).symm, B2.out.trans (hb5.mono B2.out.size)⟩
    | succ g =>
      have hk : k ≤ R.length := by omega
      go_upto_block 5 with fail
      apply b5 (k := k) (R := R) (hR := HR.out) (hRl := hRl) (hk := hk) (hr := Hr.out.below hB)
      intro z6 z23 z24 z25 z26 z27 z210 z211 z212 z213 z214 z215 z216 z217 z218 z219 z220 z221 z222 z223 z224 z225 z226 z227 z228 z229 z230 z231 z232 z233 z234 z235 z236 z237 z238 W3 hb3
      dsimp only
      have hB3 := hB.trans (hb3.mono hB.size)
      clear hb3 hB
      go_wp2
      go_roundg g
      case measure => omega
      case rel => exact ⟨k + 1, by omega, by simp, hB3⟩

end Go.Proofs.YtppjpkkkogmhfaaDoor
