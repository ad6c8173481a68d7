/- This text proves a part of emendtop.TopPlaced: three appends make the new text in function 3. Its conditions stand ahead of each theorem. -/
import Derived.Test.YtppjpkkkogmhfaaDoorN3
import Derived.Deep.RegionLaw
import Derived.Deep.AppendLies
namespace Go.Proofs.YtppjpkkkogmhfaaDoor
open Go.RowKit Go.Shelf

def isReg (n : Nat) : Code → Bool
  | .region k _ _ => k == n
  | _ => false
theorem only_normal {c : Code} {K : Act → World → Prop} {Q : Exit → Act → World → Prop} {a : Act} {w : World} (h : c.wp Tryd.prog (Exit.then K fun _ _ _ => False) a w) : c.wp Tryd.prog (Exit.then K Q) a w := by
  refine wp_mono h ?_
  intro e a' w' hq
  cases e with
  | normal => exact hq
  | exit id => exact hq.elim
  | goto l => exact hq.elim
  | ret => exact hq.elim
  | panic ch => exact hq.elim
  | outgrown => exact hq.elim

noncomputable def S29 : Code := (Tryd.f3.body.bind (findC (isReg 29))).getD .skip

theorem step_append_runes {ops : Array Oper} {o : Oper} {a : Act} {w : World} {K : Act → World → Prop} {Q : Exit → Act → World → Prop} {E : Prop} (hgd : o.guard = none) (s x : Operand)
    (ho : o.op = .call { callee := .builtin .append, args := #[s, x], argTypes := #[25, 25] })
    (base : Nat) (v src : Value) (S R : List Int) (hs : a.eval s = v) (hown : w.ownsRow base 21 1 v S.length (rc S)) (hx : a.eval x = src) (hsrc : RunesAt w src R)
    (hl : S.length + R.length ≤ 1000000) (hbase : base ≤ w.heap.size)
    (h : ∀ v' w', w'.ownsRow base 21 1 v' (S ++ R).length (rc (S ++ R)) → w.grownBy w' v.ownBlock → K (a.put o.dst v') w') :
    if Region.wanted o (yielded ops a.tmps) = true then Oper.wp Tryd.prog o a w K Q else E := by
  have hw : Region.wanted o (yielded ops a.tmps) = true := by simp [Region.wanted, hgd]
  rw [if_pos hw]
  obtain ⟨i0, hi, hz0, hz1, hz2⟩ := info_parts runeInfo
  obtain ⟨A, cap, rfl, hc, hn, hj⟩ := hsrc
  cases A with
  | none =>
    have hcap := hn rfl
    have hR : R = [] := List.length_eq_zero_iff.1 (by omega)
    subst hcap
    subst hR
    have hrun := run_append_owned_none (P := Tryd.prog) (w := w) base 25 o.type 21 i0 1 Tryd.underlying25 hi v S.length (rc S) hown
    have hx' : a.eval x = .slice none 0 0 := hx
    unfold Oper.wp
    simp [execOp, ho, resolve, invoke, builtin, hs, hx', hrun, Result.andThen]
    have := h v w
    rw [List.append_nil] at this
    exact this hown (World.grownBy.refl _ _)
  | some ad =>
    refine wp_append_own w s x 25 ho base 21 i0 (.int .i32 0) 1 4 Tryd.underlying25 hi hz0 hz1 hz2 rfl (by decide) v S.length (rc S) hs hown ad R.length cap (rc R) hx (by simp [rc]) ?_ (oneCell_i32 R) (by unfold maxLen; omega) (by omega) hbase ?_
    · intro j u hju
      have hjl : j < R.length := by
        have := (List.getElem?_eq_some_iff.1 hju).1
        simpa [rc] using this
      obtain ⟨b, o', hA, hcell, _⟩ := hj j hjl
      cases hA
      rw [addr_add, hcell]
      simp [rc, hjl] at hju
      rw [hju]
    · intro v' w' h2 h3 _
      exact h v' w' (by rw [List.length_append]; simpa [rc] using h2) h3

set_option maxRecDepth 1000000 in
set_option maxHeartbeats 16000000 in
theorem s29o (x0 x1 x2 x3 x4 x5 x6 x8 x9 x10 x11 x12 x14 x17 x18 x19 x20 x21 x22 x23 x24 x25 x26 x27 x28 x29 x30 x31 x32 x33 x34 x35 x36 x37 x38 x39 x40 x41 x42 x43 x44 x45 x46 x47 x48 x49 x50 x51 x52 x53 x54 x55 x56 x57 x58 x59 x60 x61 x62 x63 x64 x65 x66 x67 x68 x69 x70 x71 x72 x73 x74 x75 x76 x77 x78 x79 x80 x81 x82 x83 x84 x85 x86 x87 x88 x89 x90 x91 x92 x93 x94 x95 x96 x97 x98 x99 x100 x101 x102 x103 x104 x105 x106 x107 x108 x109 x110 x111 x112 x113 x114 x115 x116 x117 x118 x119 x120 x121 x122 x123 x124 x125 x126 x127 x128 x129 x130 x131 x132 x133 x134 x135 x136 x137 x138 x139 x140 x141 x142 x143 x144 x145 x146 x147 x148 x149 x150 x151 x152 x153 x154 x155 x156 x157 x158 x159 x160 x161 x162 x163 x164 x165 x166 x167 x168 x169 x170 x171 x172 x173 x174 x175 x176 x177 x178 x179 x180 x181 x182 x183 x184 x185 x186 x187 x188 x189 x190 x191 x192 x193 x194 x195 x196 x197 x198 x199 x200 x201 x202 x203 x204 x205 x206 x207 x208 x209 x210 x211 x212 x213 x214 x215 x216 x217 x218 x219 x220 x221 x222 x223 x224 x225 x226 x227 x228 x229 x230 x231 x232 x233 x234 x235 x236 x237 x238 x239 x240 x241 x242 x243 x244 x245 x246 x247 x248 x249 x250 x251 x252 x253 tv pv : Value) (a b : Nat) (R pu : List Int) (W : World) (K : Act → World → Prop)
    (hRl : R.length ≤ 200) (hpl : pu.length ≤ 10) (ha : a ≤ R.length) (hb : b ≤ R.length) (hr : RunesAt W tv R) (hp : RunesAt W pv pu)
    (hK : ∀ (y150 y151 y152 y153 y154 y155 y156 y157 y158 y159 y160 t' : Value) (W' : World), RunesAt W' t' (R.take a ++ pu ++ R.drop b) → Below W.heap.size W W' → K ⟨#[x0, x1, x2, x3, x4, x5, x6, t', x8, x9, x10, x11, x12, pv, x14, .int .i64 (a : Int), .int .i64 (b : Int), x17, x18, x19, x20, x21, x22, x23, x24, x25, x26, x27, x28, x29, x30, x31, x32, x33, x34, x35, x36, x37, x38, x39, x40, x41, x42, x43, x44, x45, x46, x47, x48, x49, x50, x51, x52, x53, x54, x55, x56, x57, x58, x59, x60, x61, x62, x63, x64, x65, x66, x67, x68, x69, x70, x71, x72, x73, x74, x75, x76, x77, x78, x79, x80, x81, x82, x83, x84, x85, x86, x87, x88, x89, x90, x91, x92, x93, x94, x95, x96, x97, x98, x99, x100, x101, x102, x103, x104, x105, x106, x107, x108, x109, x110, x111, x112, x113, x114, x115, x116, x117, x118, x119, x120, x121, x122, x123, x124, x125, x126, x127, x128, x129, x130, x131, x132, x133, x134, x135, x136, x137, x138, x139, x140, x141, x142, x143, x144, x145, x146, x147, x148, x149, y150, y151, y152, y153, y154, y155, y156, y157, y158, y159, y160, x161, x162, x163, x164, x165, x166, x167, x168, x169, x170, x171, x172, x173, x174, x175, x176, x177, x178, x179, x180, x181, x182, x183, x184, x185, x186, x187, x188, x189, x190, x191, x192, x193, x194, x195, x196, x197, x198, x199, x200, x201, x202, x203, x204, x205, x206, x207, x208, x209, x210, x211, x212, x213, x214, x215, x216, x217, x218, x219, x220, x221, x222, x223, x224, x225, x226, x227, x228, x229, x230, x231, x232, x233, x234, x235, x236, x237, x238, x239, x240, x241, x242, x243, x244, x245, x246, x247, x248, x249, x250, x251, x252, x253], []⟩ W') :
    Code.wp Tryd.prog S29 (Exit.then K fun _ _ _ => False) ⟨#[x0, x1, x2, x3, x4, x5, x6, tv, x8, x9, x10, x11, x12, pv, x14, .int .i64 (a : Int), .int .i64 (b : Int), x17, x18, x19, x20, x21, x22, x23, x24, x25, x26, x27, x28, x29, x30, x31, x32, x33, x34, x35, x36, x37, x38, x39, x40, x41, x42, x43, x44, x45, x46, x47, x48, x49, x50, x51, x52, x53, x54, x55, x56, x57, x58, x59, x60, x61, x62, x63, x64, x65, x66, x67, x68, x69, x70, x71, x72, x73, x74, x75, x76, x77, x78, x79, x80, x81, x82, x83, x84, x85, x86, x87, x88, x89, x90, x91, x92, x93, x94, x95, x96, x97, x98, x99, x100, x101, x102, x103, x104, x105, x106, x107, x108, x109, x110, x111, x112, x113, x114, x115, x116, x117, x118, x119, x120, x121, x122, x123, x124, x125, x126, x127, x128, x129, x130, x131, x132, x133, x134, x135, x136, x137, x138, x139, x140, x141, x142, x143, x144, x145, x146, x147, x148, x149, x150, x151, x152, x153, x154, x155, x156, x157, x158, x159, x160, x161, x162, x163, x164, x165, x166, x167, x168, x169, x170, x171, x172, x173, x174, x175, x176, x177, x178, x179, x180, x181, x182, x183, x184, x185, x186, x187, x188, x189, x190, x191, x192, x193, x194, x195, x196, x197, x198, x199, x200, x201, x202, x203, x204, x205, x206, x207, x208, x209, x210, x211, x212, x213, x214, x215, x216, x217, x218, x219, x220, x221, x222, x223, x224, x225, x226, x227, x228, x229, x230, x231, x232, x233, x234, x235, x236, x237, x238, x239, x240, x241, x242, x243, x244, x245, x246, x247, x248, x249, x250, x251, x252, x253], []⟩ W := by
  conv => arg 2; whnf
  obtain ⟨v1, hv1, e1⟩ := hr.hi a ha
  obtain ⟨v2, hv2, e2⟩ := hr.lo b hb
  have e1' := fun W => (sliceAt_eq tv none (some (.int .i64 (a : Int))) none W).trans (e1 W)
  have e2' := fun W => (sliceAt_eq tv (some (.int .i64 (b : Int))) none none W).trans (e2 W)
  have l1 : (R.take a).length ≤ 200 := by rw [List.length_take]; omega
  have l2 : (R.drop b).length ≤ 200 := by rw [List.length_drop]; omega
  have l3 : (R.take a ++ pu).length ≤ 210 := by rw [List.length_append]; omega
  have H1 := Lib.hid hv1
  have H2 := Lib.hid hv2
  have H3 := Lib.hid hp
  have HpK := Lib.hid hK
  have B0 := Lib.hid (((Below.refl W.heap.size W).drew).alloc (Nat.le_refl _) (.cells #[] 21))
  have O0 := Lib.hid (World.ownsRow_made W.drew #[] 0 (base := W.heap.size) (e := 21) (size := 1) (Nat.le_refl _) (by decide) rfl)
  clear hr hv1 hv2 hp hK
  go_region_law (first
    | (refine step_append_runes rfl (.tmp 150) (.tmp 153) rfl W.heap.size (.slice (some ⟨W.heap.size, 0, none⟩) 0 0) v1 [] (R.take a) rfl O0.out rfl (H1.out.below B0.out) (by simp only [List.length_nil]; omega) B0.out.size ?_; intro q1 w1 o1 g1; have b1 := B0.out.grown g1 B0.out.size (fun k hk => (O0.out.lt k hk).1))
    | (refine step_append_runes rfl (.tmp 154) (.tmp 155) rfl W.heap.size q1 pv ([] ++ R.take a) pu rfl o1 rfl (H3.out.below b1) (by simp only [List.nil_append]; omega) b1.size ?_; intro q2 w2 o2 g2; have b2 := b1.grown g2 b1.size (fun k hk => (o1.lt k hk).1))
    | (refine step_append_runes rfl (.tmp 156) (.tmp 159) rfl W.heap.size q2 v2 (([] ++ R.take a) ++ pu) (R.drop b) rfl o2 rfl (H2.out.below b2) (by simp only [List.nil_append]; omega) b2.size ?_; intro q3 w3 o3 g3; have b3 := b2.grown g3 b2.size (fun k hk => (o2.lt k hk).1)))
  all_goals
    go_wp2
    apply HpK.out
    · exact RunesAt.of_own o3
    · exact b3

end Go.Proofs.YtppjpkkkogmhfaaDoor
