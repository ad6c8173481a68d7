/- This text proves a part of emendtop.TopPlaced: a typed change is turned into a told one in function 3. Its conditions stand ahead of each theorem. -/
import Derived.Test.YtppjpkkkogmhfaaDoorN4
namespace Go.Proofs.YtppjpkkkogmhfaaDoor
open Go.RowKit Go.Shelf

noncomputable def S16 : Code := (Tryd.f3.body.bind (findC (isReg 16))).getD .skip

set_option maxRecDepth 1000000 in
theorem s29 (x0 x1 x2 x3 x4 x5 x6 x8 x9 x10 x11 x12 x14 x17 x18 x19 x20 x21 x22 x23 x24 x25 x26 x27 x28 x29 x30 x31 x32 x33 x34 x35 x36 x37 x38 x39 x40 x41 x42 x43 x44 x45 x46 x47 x48 x49 x50 x51 x52 x53 x54 x55 x56 x57 x58 x59 x60 x61 x62 x63 x64 x65 x66 x67 x68 x69 x70 x71 x72 x73 x74 x75 x76 x77 x78 x79 x80 x81 x82 x83 x84 x85 x86 x87 x88 x89 x90 x91 x92 x93 x94 x95 x96 x97 x98 x99 x100 x101 x102 x103 x104 x105 x106 x107 x108 x109 x110 x111 x112 x113 x114 x115 x116 x117 x118 x119 x120 x121 x122 x123 x124 x125 x126 x127 x128 x129 x130 x131 x132 x133 x134 x135 x136 x137 x138 x139 x140 x141 x142 x143 x144 x145 x146 x147 x148 x149 x150 x151 x152 x153 x154 x155 x156 x157 x158 x159 x160 x161 x162 x163 x164 x165 x166 x167 x168 x169 x170 x171 x172 x173 x174 x175 x176 x177 x178 x179 x180 x181 x182 x183 x184 x185 x186 x187 x188 x189 x190 x191 x192 x193 x194 x195 x196 x197 x198 x199 x200 x201 x202 x203 x204 x205 x206 x207 x208 x209 x210 x211 x212 x213 x214 x215 x216 x217 x218 x219 x220 x221 x222 x223 x224 x225 x226 x227 x228 x229 x230 x231 x232 x233 x234 x235 x236 x237 x238 x239 x240 x241 x242 x243 x244 x245 x246 x247 x248 x249 x250 x251 x252 x253 tv pv : Value) (a b : Nat) (R pu : List Int) (W : World) (K : Act → World → Prop) (Q : Exit → Act → World → Prop)
    (hRl : R.length ≤ 200) (hpl : pu.length ≤ 10) (ha : a ≤ R.length) (hb : b ≤ R.length) (hr : RunesAt W tv R) (hp : RunesAt W pv pu)
    (hK : ∀ (y150 y151 y152 y153 y154 y155 y156 y157 y158 y159 y160 t' : Value) (W' : World), RunesAt W' t' (R.take a ++ pu ++ R.drop b) → Below W.heap.size W W' → K ⟨#[x0, x1, x2, x3, x4, x5, x6, t', x8, x9, x10, x11, x12, pv, x14, .int .i64 (a : Int), .int .i64 (b : Int), x17, x18, x19, x20, x21, x22, x23, x24, x25, x26, x27, x28, x29, x30, x31, x32, x33, x34, x35, x36, x37, x38, x39, x40, x41, x42, x43, x44, x45, x46, x47, x48, x49, x50, x51, x52, x53, x54, x55, x56, x57, x58, x59, x60, x61, x62, x63, x64, x65, x66, x67, x68, x69, x70, x71, x72, x73, x74, x75, x76, x77, x78, x79, x80, x81, x82, x83, x84, x85, x86, x87, x88, x89, x90, x91, x92, x93, x94, x95, x96, x97, x98, x99, x100, x101, x102, x103, x104, x105, x106, x107, x108, x109, x110, x111, x112, x113, x114, x115, x116, x117, x118, x119, x120, x121, x122, x123, x124, x125, x126, x127, x128, x129, x130, x131, x132, x133, x134, x135, x136, x137, x138, x139, x140, x141, x142, x143, x144, x145, x146, x147, x148, x149, y150, y151, y152, y153, y154, y155, y156, y157, y158, y159, y160, x161, x162, x163, x164, x165, x166, x167, x168, x169, x170, x171, x172, x173, x174, x175, x176, x177, x178, x179, x180, x181, x182, x183, x184, x185, x186, x187, x188, x189, x190, x191, x192, x193, x194, x195, x196, x197, x198, x199, x200, x201, x202, x203, x204, x205, x206, x207, x208, x209, x210, x211, x212, x213, x214, x215, x216, x217, x218, x219, x220, x221, x222, x223, x224, x225, x226, x227, x228, x229, x230, x231, x232, x233, x234, x235, x236, x237, x238, x239, x240, x241, x242, x243, x244, x245, x246, x247, x248, x249, x250, x251, x252, x253], []⟩ W') :
    Code.wp Tryd.prog S29 (Exit.then K Q) ⟨#[x0, x1, x2, x3, x4, x5, x6, tv, x8, x9, x10, x11, x12, pv, x14, .int .i64 (a : Int), .int .i64 (b : Int), x17, x18, x19, x20, x21, x22, x23, x24, x25, x26, x27, x28, x29, x30, x31, x32, x33, x34, x35, x36, x37, x38, x39, x40, x41, x42, x43, x44, x45, x46, x47, x48, x49, x50, x51, x52, x53, x54, x55, x56, x57, x58, x59, x60, x61, x62, x63, x64, x65, x66, x67, x68, x69, x70, x71, x72, x73, x74, x75, x76, x77, x78, x79, x80, x81, x82, x83, x84, x85, x86, x87, x88, x89, x90, x91, x92, x93, x94, x95, x96, x97, x98, x99, x100, x101, x102, x103, x104, x105, x106, x107, x108, x109, x110, x111, x112, x113, x114, x115, x116, x117, x118, x119, x120, x121, x122, x123, x124, x125, x126, x127, x128, x129, x130, x131, x132, x133, x134, x135, x136, x137, x138, x139, x140, x141, x142, x143, x144, x145, x146, x147, x148, x149, x150, x151, x152, x153, x154, x155, x156, x157, x158, x159, x160, x161, x162, x163, x164, x165, x166, x167, x168, x169, x170, x171, x172, x173, x174, x175, x176, x177, x178, x179, x180, x181, x182, x183, x184, x185, x186, x187, x188, x189, x190, x191, x192, x193, x194, x195, x196, x197, x198, x199, x200, x201, x202, x203, x204, x205, x206, x207, x208, x209, x210, x211, x212, x213, x214, x215, x216, x217, x218, x219, x220, x221, x222, x223, x224, x225, x226, x227, x228, x229, x230, x231, x232, x233, x234, x235, x236, x237, x238, x239, x240, x241, x242, x243, x244, x245, x246, x247, x248, x249, x250, x251, x252, x253], []⟩ W :=
  only_normal (s29o x0 x1 x2 x3 x4 x5 x6 x8 x9 x10 x11 x12 x14 x17 x18 x19 x20 x21 x22 x23 x24 x25 x26 x27 x28 x29 x30 x31 x32 x33 x34 x35 x36 x37 x38 x39 x40 x41 x42 x43 x44 x45 x46 x47 x48 x49 x50 x51 x52 x53 x54 x55 x56 x57 x58 x59 x60 x61 x62 x63 x64 x65 x66 x67 x68 x69 x70 x71 x72 x73 x74 x75 x76 x77 x78 x79 x80 x81 x82 x83 x84 x85 x86 x87 x88 x89 x90 x91 x92 x93 x94 x95 x96 x97 x98 x99 x100 x101 x102 x103 x104 x105 x106 x107 x108 x109 x110 x111 x112 x113 x114 x115 x116 x117 x118 x119 x120 x121 x122 x123 x124 x125 x126 x127 x128 x129 x130 x131 x132 x133 x134 x135 x136 x137 x138 x139 x140 x141 x142 x143 x144 x145 x146 x147 x148 x149 x150 x151 x152 x153 x154 x155 x156 x157 x158 x159 x160 x161 x162 x163 x164 x165 x166 x167 x168 x169 x170 x171 x172 x173 x174 x175 x176 x177 x178 x179 x180 x181 x182 x183 x184 x185 x186 x187 x188 x189 x190 x191 x192 x193 x194 x195 x196 x197 x198 x199 x200 x201 x202 x203 x204 x205 x206 x207 x208 x209 x210 x211 x212 x213 x214 x215 x216 x217 x218 x219 x220 x221 x222 x223 x224 x225 x226 x227 x228 x229 x230 x231 x232 x233 x234 x235 x236 x237 x238 x239 x240 x241 x242 x243 x244 x245 x246 x247 x248 x249 x250 x251 x252 x253 tv pv a b R pu W K hRl hpl ha hb hr hp hK)

set_option maxRecDepth 1000000 in
set_option maxHeartbeats 16000000 in
theorem s16 (x0 x1 x2 x3 x4 x5 x6 x8 x9 x10 x11 x13 x14 x16 x17 x18 x19 x20 x21 x22 x23 x24 x25 x26 x27 x28 x29 x30 x31 x32 x33 x34 x35 x36 x37 x38 x39 x40 x41 x42 x43 x44 x45 x46 x47 x48 x49 x50 x51 x52 x53 x54 x55 x56 x57 x58 x59 x60 x61 x62 x63 x64 x65 x66 x67 x68 x69 x70 x71 x72 x73 x74 x75 x76 x77 x78 x79 x80 x81 x82 x83 x84 x85 x86 x87 x88 x89 x90 x91 x92 x93 x94 x95 x96 x97 x98 x99 x100 x101 x102 x103 x104 x105 x106 x107 x108 x109 x110 x111 x112 x113 x114 x115 x116 x117 x118 x119 x120 x121 x122 x123 x124 x125 x126 x127 x128 x129 x130 x131 x132 x133 x134 x135 x136 x137 x138 x139 x140 x141 x142 x143 x144 x145 x146 x147 x148 x149 x150 x151 x152 x153 x154 x155 x156 x157 x158 x159 x160 x161 x162 x163 x164 x165 x166 x167 x168 x169 x170 x171 x172 x173 x174 x175 x176 x177 x178 x179 x180 x181 x182 x183 x184 x185 x186 x187 x188 x189 x190 x191 x192 x193 x194 x195 x196 x197 x198 x199 x200 x201 x202 x203 x204 x205 x206 x207 x208 x209 x210 x211 x212 x213 x214 x215 x216 x217 x218 x219 x220 x221 x222 x223 x224 x225 x226 x227 x228 x229 x230 x231 x232 x233 x234 x235 x236 x237 x238 x239 x240 x241 x242 x243 x244 x245 x246 x247 x248 x249 x250 x251 x252 x253 tv : Value) (bx a b : Nat) (R : List Int) (til : Int) (W : World) (K : Act → World → Prop) (Q : Exit → Act → World → Prop)
    (hRl : R.length ≤ 200) (ha : a ≤ R.length) (ht : 0 ≤ til ∧ til < 65536) (hb : (b : Int) = a + til % ((R.length : Int) - a + 1)) (hr : RunesAt W tv R) (qx : W.cell? ⟨bx, 1, none⟩ = some (.int .u16 til))
    (hK : ∀ (y83 y84 y85 y86 y87 y88 y89 y90 y91 y92 y93 : Value), K ⟨#[x0, x1, x2, x3, x4, x5, x6, tv, x8, x9, x10, x11, .pointer (some ⟨bx, 0, none⟩), x13, x14, .int .i64 (a : Int), .int .i64 (b : Int), x17, x18, x19, x20, x21, x22, x23, x24, x25, x26, x27, x28, x29, x30, x31, x32, x33, x34, x35, x36, x37, x38, x39, x40, x41, x42, x43, x44, x45, x46, x47, x48, x49, x50, x51, x52, x53, x54, x55, x56, x57, x58, x59, x60, x61, x62, x63, x64, x65, x66, x67, x68, x69, x70, x71, x72, x73, x74, x75, x76, x77, x78, x79, x80, x81, x82, y83, y84, y85, y86, y87, y88, y89, y90, y91, y92, y93, x94, x95, x96, x97, x98, x99, x100, x101, x102, x103, x104, x105, x106, x107, x108, x109, x110, x111, x112, x113, x114, x115, x116, x117, x118, x119, x120, x121, x122, x123, x124, x125, x126, x127, x128, x129, x130, x131, x132, x133, x134, x135, x136, x137, x138, x139, x140, x141, x142, x143, x144, x145, x146, x147, x148, x149, x150, x151, x152, x153, x154, x155, x156, x157, x158, x159, x160, x161, x162, x163, x164, x165, x166, x167, x168, x169, x170, x171, x172, x173, x174, x175, x176, x177, x178, x179, x180, x181, x182, x183, x184, x185, x186, x187, x188, x189, x190, x191, x192, x193, x194, x195, x196, x197, x198, x199, x200, x201, x202, x203, x204, x205, x206, x207, x208, x209, x210, x211, x212, x213, x214, x215, x216, x217, x218, x219, x220, x221, x222, x223, x224, x225, x226, x227, x228, x229, x230, x231, x232, x233, x234, x235, x236, x237, x238, x239, x240, x241, x242, x243, x244, x245, x246, x247, x248, x249, x250, x251, x252, x253], []⟩ W) :
    Code.wp Tryd.prog S16 (Exit.then K Q) ⟨#[x0, x1, x2, x3, x4, x5, x6, tv, x8, x9, x10, x11, .pointer (some ⟨bx, 0, none⟩), x13, x14, .int .i64 (a : Int), x16, x17, x18, x19, x20, x21, x22, x23, x24, x25, x26, x27, x28, x29, x30, x31, x32, x33, x34, x35, x36, x37, x38, x39, x40, x41, x42, x43, x44, x45, x46, x47, x48, x49, x50, x51, x52, x53, x54, x55, x56, x57, x58, x59, x60, x61, x62, x63, x64, x65, x66, x67, x68, x69, x70, x71, x72, x73, x74, x75, x76, x77, x78, x79, x80, x81, x82, x83, x84, x85, x86, x87, x88, x89, x90, x91, x92, x93, x94, x95, x96, x97, x98, x99, x100, x101, x102, x103, x104, x105, x106, x107, x108, x109, x110, x111, x112, x113, x114, x115, x116, x117, x118, x119, x120, x121, x122, x123, x124, x125, x126, x127, x128, x129, x130, x131, x132, x133, x134, x135, x136, x137, x138, x139, x140, x141, x142, x143, x144, x145, x146, x147, x148, x149, x150, x151, x152, x153, x154, x155, x156, x157, x158, x159, x160, x161, x162, x163, x164, x165, x166, x167, x168, x169, x170, x171, x172, x173, x174, x175, x176, x177, x178, x179, x180, x181, x182, x183, x184, x185, x186, x187, x188, x189, x190, x191, x192, x193, x194, x195, x196, x197, x198, x199, x200, x201, x202, x203, x204, x205, x206, x207, x208, x209, x210, x211, x212, x213, x214, x215, x216, x217, x218, x219, x220, x221, x222, x223, x224, x225, x226, x227, x228, x229, x230, x231, x232, x233, x234, x235, x236, x237, x238, x239, x240, x241, x242, x243, x244, x245, x246, x247, x248, x249, x250, x251, x252, x253], []⟩ W := by
  conv => arg 2; whnf
  have hu33 := Tryd.underlying33
  have hrl := hr.len
  obtain ⟨r, hr2⟩ : ∃ r, til % ((R.length : Int) - a + 1) = r := ⟨_, rfl⟩
  have d1 := tmod_e til ((R.length : Int) - a + 1) ht.1
  rw [hr2] at d1 hb
  have hr0 : 0 ≤ r := by rw [← hr2]; exact Int.emod_nonneg _ (by omega)
  have hr1 : r < (R.length : Int) - a + 1 := by rw [← hr2]; exact Int.emod_lt_of_pos _ (by omega)
  have hb2 : (a : Int) + r = (b : Int) := hb.symm
  have hnz : ((R.length : Int) - a + 1 == 0) = false := by simp; omega
  have HpK := Lib.hid hK
  clear hr hK hr2 hb
  go_wp2
  apply HpK.out

set_option maxRecDepth 1000000 in
set_option maxHeartbeats 16000000 in
theorem s81 (x0 x1 x2 x3 x4 x5 x6 x8 x9 x10 x11 x16 x17 x18 x19 x20 x21 x22 x23 x24 x25 x26 x27 x28 x29 x30 x31 x32 x33 x34 x35 x36 x37 x38 x39 x40 x41 x42 x43 x44 x45 x46 x47 x48 x49 x50 x51 x52 x53 x54 x55 x56 x57 x58 x59 x60 x61 x62 x63 x64 x65 x66 x67 x68 x69 x70 x71 x72 x73 x74 x75 x76 x77 x78 x79 x80 x82 x83 x84 x85 x86 x87 x88 x89 x90 x91 x92 x93 x94 x95 x96 x97 x98 x99 x100 x101 x102 x103 x104 x105 x106 x107 x108 x109 x110 x111 x112 x113 x114 x115 x116 x117 x118 x119 x120 x121 x122 x123 x124 x125 x126 x127 x128 x129 x130 x131 x132 x133 x134 x135 x136 x137 x138 x139 x140 x141 x142 x143 x144 x145 x146 x147 x148 x149 x150 x151 x152 x153 x154 x155 x156 x157 x158 x159 x160 x161 x162 x163 x164 x165 x166 x167 x168 x169 x170 x171 x172 x173 x174 x175 x176 x177 x178 x179 x180 x181 x182 x183 x184 x185 x186 x187 x188 x189 x190 x191 x192 x193 x194 x195 x196 x197 x198 x199 x200 x201 x202 x203 x204 x205 x206 x207 x208 x209 x210 x211 x212 x213 x214 x215 x216 x217 x218 x219 x220 x221 x222 x223 x224 x225 x226 x227 x228 x229 x230 x231 x232 x233 x234 x235 x236 x237 x238 x239 x240 x241 x242 x243 x244 x245 x246 x247 x248 x249 x250 x251 x252 x253 tv pv : Value) (bx bc a : Nat) (R : List Int) (x : Ty) (W : World) (K : Act → World → Prop) (Q : Exit → Act → World → Prop)
    (hR : ∀ c ∈ R, InA c) (hRl : R.length ≤ 200) (ha : (a : Int) = x.frm % ((R.length : Int) + 1)) (ht : 0 ≤ x.til ∧ x.til < 65536) (hbe : 0 ≤ x.be ∧ x.be < 256) (hne : bx ≠ bc) (hr : RunesAt W tv R) (hp : RunesAt W pv ((x.text.take 10).map pick))
    (qx1 : W.cell? ⟨bx, 1, none⟩ = some (.int .u16 x.til)) (qx3 : W.cell? ⟨bx, 3, none⟩ = some (.int .u8 x.be))
    (qc : W.heap[bc]? = some (.cells #[.bool x.whole, .int .i64 0, .int .i64 0, .int .i64 0, .int .i64 0, .string (runesBytes ((x.text.take 10).map pick))] 39 (0, 0)))
    (hK : ∀ (y16 y17 y18 y19 y20 y82 y83 y84 y85 y86 y87 y88 y89 y90 y91 y92 y93 y94 y95 y96 y97 y98 y99 y100 y101 y102 y103 y104 y105 y106 y107 y108 y109 y110 y111 y112 y113 y114 y115 y116 y117 y118 y119 y120 y121 y122 y123 y124 y125 y126 y127 y128 y129 y130 y131 y132 y133 y134 y135 y136 y137 y138 y139 y140 y141 y142 y143 y144 y145 y146 y147 y148 y149 y150 y151 y152 y153 y154 y155 y156 y157 y158 y159 y160 t' : Value) (W' : World), RunesAt W' t' (stepC R (chgOf R x)) → ChgAt W' bc 0 (chgOf R x) → W.grownBy W' (some bc) → K ⟨#[x0, x1, x2, x3, x4, x5, x6, t', x8, x9, x10, x11, .pointer (some ⟨bx, 0, none⟩), pv, .pointer (some ⟨bc, 0, none⟩), .int .i64 (a : Int), y16, y17, y18, y19, y20, x21, x22, x23, x24, x25, x26, x27, x28, x29, x30, x31, x32, x33, x34, x35, x36, x37, x38, x39, x40, x41, x42, x43, x44, x45, x46, x47, x48, x49, x50, x51, x52, x53, x54, x55, x56, x57, x58, x59, x60, x61, x62, x63, x64, x65, x66, x67, x68, x69, x70, x71, x72, x73, x74, x75, x76, x77, x78, x79, x80, .bool x.whole, y82, y83, y84, y85, y86, y87, y88, y89, y90, y91, y92, y93, y94, y95, y96, y97, y98, y99, y100, y101, y102, y103, y104, y105, y106, y107, y108, y109, y110, y111, y112, y113, y114, y115, y116, y117, y118, y119, y120, y121, y122, y123, y124, y125, y126, y127, y128, y129, y130, y131, y132, y133, y134, y135, y136, y137, y138, y139, y140, y141, y142, y143, y144, y145, y146, y147, y148, y149, y150, y151, y152, y153, y154, y155, y156, y157, y158, y159, y160, x161, x162, x163, x164, x165, x166, x167, x168, x169, x170, x171, x172, x173, x174, x175, x176, x177, x178, x179, x180, x181, x182, x183, x184, x185, x186, x187, x188, x189, x190, x191, x192, x193, x194, x195, x196, x197, x198, x199, x200, x201, x202, x203, x204, x205, x206, x207, x208, x209, x210, x211, x212, x213, x214, x215, x216, x217, x218, x219, x220, x221, x222, x223, x224, x225, x226, x227, x228, x229, x230, x231, x232, x233, x234, x235, x236, x237, x238, x239, x240, x241, x242, x243, x244, x245, x246, x247, x248, x249, x250, x251, x252, x253], []⟩ W') :
    Code.wp Tryd.prog S81 (Exit.then K Q) ⟨#[x0, x1, x2, x3, x4, x5, x6, tv, x8, x9, x10, x11, .pointer (some ⟨bx, 0, none⟩), pv, .pointer (some ⟨bc, 0, none⟩), .int .i64 (a : Int), x16, x17, x18, x19, x20, x21, x22, x23, x24, x25, x26, x27, x28, x29, x30, x31, x32, x33, x34, x35, x36, x37, x38, x39, x40, x41, x42, x43, x44, x45, x46, x47, x48, x49, x50, x51, x52, x53, x54, x55, x56, x57, x58, x59, x60, x61, x62, x63, x64, x65, x66, x67, x68, x69, x70, x71, x72, x73, x74, x75, x76, x77, x78, x79, x80, .bool x.whole, x82, x83, x84, x85, x86, x87, x88, x89, x90, x91, x92, x93, x94, x95, x96, x97, x98, x99, x100, x101, x102, x103, x104, x105, x106, x107, x108, x109, x110, x111, x112, x113, x114, x115, x116, x117, x118, x119, x120, x121, x122, x123, x124, x125, x126, x127, x128, x129, x130, x131, x132, x133, x134, x135, x136, x137, x138, x139, x140, x141, x142, x143, x144, x145, x146, x147, x148, x149, x150, x151, x152, x153, x154, x155, x156, x157, x158, x159, x160, x161, x162, x163, x164, x165, x166, x167, x168, x169, x170, x171, x172, x173, x174, x175, x176, x177, x178, x179, x180, x181, x182, x183, x184, x185, x186, x187, x188, x189, x190, x191, x192, x193, x194, x195, x196, x197, x198, x199, x200, x201, x202, x203, x204, x205, x206, x207, x208, x209, x210, x211, x212, x213, x214, x215, x216, x217, x218, x219, x220, x221, x222, x223, x224, x225, x226, x227, x228, x229, x230, x231, x232, x233, x234, x235, x236, x237, x238, x239, x240, x241, x242, x243, x244, x245, x246, x247, x248, x249, x250, x251, x252, x253], []⟩ W := by
  conv => arg 2; whnf
  have hltc := (Array.getElem?_eq_some_iff.1 qc).1
  have hle : a ≤ R.length := by
    have := Int.emod_lt_of_pos x.frm (show (0 : Int) < (R.length : Int) + 1 by omega)
    omega
  obtain ⟨pu, hpu⟩ : ∃ pu, (x.text.take 10).map pick = pu := ⟨_, rfl⟩
  have hpl : pu.length ≤ 10 := by rw [← hpu, List.length_map, List.length_take]; omega
  obtain ⟨c, hc⟩ : ∃ c, chgOf R x = c := ⟨_, rfl⟩
  rw [hpu] at hp qc
  by_cases hw : x.whole = true
  · have hce : c = ⟨true, 0, 0, 0, 0, pu, 0, 0⟩ := by rw [← hc]; unfold chgOf; rw [if_pos hw, hpu]
    rw [hc] at hK
    rw [hw] at qc hK ⊢
    have hst : stepC R c = pu := by rw [hce]; rfl
    have hch : ChgAt W bc 0 c := by rw [hce]; exact ⟨cellOf qc 0, cellOf qc 1, cellOf qc 2, cellOf qc 3, cellOf qc 4, cellOf qc 5⟩
    rw [← hst] at hp
    have HpK := Lib.hid hK
    have Hp := Lib.hid hp
    clear hK hp hr hR qx1 qx3 qc hpu hpl hc hce hw ha
    go_wp2
    apply HpK.out
    · exact Hp.out
    · exact hch
    · exact World.grownBy.refl _ _
  · have hw2 : x.whole = false := by simpa using hw
    obtain ⟨b, hb⟩ : ∃ b : Nat, (b : Int) = a + x.til % ((R.length : Int) - a + 1) := by
      have h1 := Int.emod_nonneg x.til (show (R.length : Int) - a + 1 ≠ 0 by omega)
      exact ⟨(a + x.til % ((R.length : Int) - a + 1)).toNat, by omega⟩
    have hble : b ≤ R.length := by
      have := Int.emod_lt_of_pos x.til (show (0 : Int) < (R.length : Int) - a + 1 by omega)
      omega
    have hce : c = ⟨false, (told R x.be a).1, (told R x.be a).2, (told R x.be b).1, (told R x.be b).2, pu, a, b⟩ := by
      rw [← hc]
      unfold chgOf
      rw [if_neg hw, hpu]
      simp only [← ha, ← hb, Int.toNat_natCast]
    rw [hc] at hK
    rw [hw2] at qc hK ⊢
    have hst : stepC R c = R.take a ++ pu ++ R.drop b := by rw [hce]; rfl
    have hch : ∀ W' : World, W'.heap[bc]? = some (.cells #[.bool false, .int .i64 (told R x.be a).1, .int .i64 (told R x.be a).2, .int .i64 (told R x.be b).1, .int .i64 (told R x.be b).2, .string (runesBytes pu)] 39 (0, 0)) → ChgAt W' bc 0 c := by
      intro W' h
      rw [hce]
      exact ⟨cellOf h 0, cellOf h 1, cellOf h 2, cellOf h 3, cellOf h 4, cellOf h 5⟩
    have HpK := Lib.hid hK
    have Ha := Lib.hid ha
    have Hb := Lib.hid hb
    clear hK ha hb hc hce hpu hw
    go_step
    go_step
    rename_i K1 h1
    apply s16 (R := R) (b := b) (til := x.til) (hRl := hRl) (ha := hle) (ht := ht) (hb := Hb.out) (hr := hr) (qx := qx1)
    intro a83 a84 a85 a86 a87 a88 a89 a90 a91 a92 a93
    dsimp only
    apply h1
    go_step
    rename_i K2 h2
    apply s17 (R := R) (be := x.be) (hR := hR) (hRl := hRl) (ha := hle) (hb := hble) (hbe := hbe) (hr := hr) (qx := qx3) (hne := hne) (qc := qc)
    intro b17 b18 b19 b20 b94 b95 b96 b97 b98 b99 b100 b101 b102 b103 b104 b105 b106 b107 b108 b109 b110 b111 b112 b113 b114 b115 b116 b117 b118 b119 b120 b121 b122 b123 b124 b125 b126 b127 b128 b129 b130 b131 b132 b133 b134 b135 b136 b137 b138 b139 b140 b141 b142 b143 b144 b145 b146 b147 b148 b149 W2 hg2 hc2
    dsimp only
    apply h2
    have hr2 := hr.grown hg2 (not21 qc)
    have hp2 := hp.grown hg2 (not21 qc)
    apply s29 (R := R) (pu := pu) (hRl := hRl) (hpl := hpl) (ha := hle) (hb := hble) (hr := hr2) (hp := hp2)
    intro c150 c151 c152 c153 c154 c155 c156 c157 c158 c159 c160 t2 W3 hr3 hb3
    dsimp only
    apply HpK.out
    · rw [hst]; exact hr3
    · exact hch _ ((hb3.block bc (Nat.lt_of_lt_of_le hltc hg2.size)).trans hc2)
    · exact hg2.trans ((grown_of_below hb3).but _)

end Go.Proofs.YtppjpkkkogmhfaaDoor
