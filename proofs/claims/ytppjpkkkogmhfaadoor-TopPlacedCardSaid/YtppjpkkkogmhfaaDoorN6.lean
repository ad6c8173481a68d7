/- This text proves a part of emendtop.TopPlaced: told changes are sent and the document is looked at: the rest of the great loop's round in function 3. Its conditions stand ahead of each theorem. -/
import Derived.Test.YtppjpkkkogmhfaaDoorN5
namespace Go.Proofs.YtppjpkkkogmhfaaDoor
open Go.RowKit Go.Shelf

/-- what lies between two rounds of the great loop -/
structure Mid (w0 w' : World) (B d m : Nat) (i : Nat) (vn : Int) (tv sv : Value) (R : List Int) : Prop where
  text : RunesAt w' tv R
  inA : ∀ c ∈ R, InA c
  len : R.length ≤ 40 + 10 * i
  ver : 1 ≤ vn ∧ vn ≤ i + 1
  below : Below w0.heap.size w0 w'
  base : B ≤ w'.heap.size
  docs : ∃ (R0 : List Int) (chs : List Chg) (born clk : Nat), DocsAt w' d m (oneE (runesBytes R0) vn born) clk ∧ (∀ c ∈ R0, InA c) ∧ R0.length ≤ 40 + 10 * i ∧ chs.length ≤ i ∧ FitsAll R0 chs ∧ chs.foldl stepC R0 = R ∧ w'.ownsRow B 39 6 sv chs.length (chs.flatMap chgCells)

theorem chg_new (W : World) (c : Chg) : ChgAt (W.alloc (.cells (chgCells c).toArray 39)) W.heap.size 0 c := by
  have h := World.alloc_heap_new W (.cells (chgCells c).toArray 39)
  exact ⟨cellOf h 0, cellOf h 1, cellOf h 2, cellOf h 3, cellOf h 4, cellOf h 5⟩

theorem DocsAt.belowB {w w' : World} {B d m : Nat} {es : Array MapEntry} {clk : Nat} (h : DocsAt w d m es clk) (hb : Below B w w') (hd : d < B) (hm : m < B) : DocsAt w' d m es clk :=
  ⟨(hb.cell (p := ⟨d, 0, none⟩) hd).trans h.cell, (hb.block m hm).trans h.map⟩

theorem map_not21 {w : World} {d m : Nat} {es : Array MapEntry} {clk : Nat} (h : DocsAt w d m es clk) : ∀ k, some m = some k → ∀ cs fz, w.heap[k]? ≠ some (.cells cs 21 fz) := by
  intro k e cs fz
  cases e
  rw [h.map]
  simp

theorem append_chg' {ops : Array Oper} {rest : List Oper} {o : Oper} {a : Act} {w : World} {Q : Exit → Act → World → Prop} (hgd : o.guard = none) (s x : Operand)
    (ho : o.op = .call { callee := .builtin .append, args := #[s, x], argTypes := #[31, 31] })
    (base g : Nat) (v : Value) (l cs : List Chg) (c : Chg) (hcs : l ++ [c] = cs) (hs : a.eval s = v) (hown : w.ownsRow base 39 6 v l.length (l.flatMap chgCells)) (hx : a.eval x = .slice (some ⟨g, 0, none⟩) 1 1)
    (hsrc : ChgAt w g 0 c)
    (hl : l.length ≤ 1000000) (hbase : base ≤ w.heap.size)
    (h : ∀ g' cap w', w'.ownsRow base 39 6 (.slice (some ⟨g', 0, none⟩) cs.length cap) cs.length (cs.flatMap chgCells) → w.grownBy w' v.ownBlock → wpList Tryd.prog ops Q rest (a.put o.dst (.slice (some ⟨g', 0, none⟩) cs.length cap)) w') : wpList Tryd.prog ops Q (o :: rest) a w := by
  subst hcs
  exact append_chg hgd s x ho base g v l c hs hown hx hsrc hl hbase h

theorem own_not21 {w : World} {B : Nat} {v : Value} {n : Nat} {xs : List Value} (h : w.ownsRow B 39 6 v n xs) : ∀ k, v.ownBlock = some k → ∀ cs fz, w.heap[k]? ≠ some (.cells cs 21 fz) := by
  intro k hk cs fz h'
  rcases h.2 with ⟨rfl, _⟩ | ⟨g, cap, cur, rfl, _, hg, _⟩
  · simp [Value.ownBlock] at hk
  · simp [Value.ownBlock] at hk
    subst hk
    rw [hg] at h'
    simp at h'

/-- what is known behind a step of the round -/
def Aft (w0 w : World) (B d m : Nat) (tv : Value) (R : List Int) (text : ByteArray) (vn : Int) (born clk : Nat) : Prop :=
  DocsAt w d m (oneE text vn born) clk ∧ RunesAt w tv R ∧ Tabs w ∧ Below w0.heap.size w0 w ∧ B ≤ w.heap.size

theorem after1 {w0 W w1 : World} {B d m : Nat} {tv sv : Value} {R : List Int} {text : ByteArray} {vn : Int} {born clk n : Nat} {xs : List Value} {o : Obj} (ho : W.ownsRow B 39 6 sv n xs) (hd : DocsAt W d m (oneE text vn born) clk) (ht : RunesAt W tv R) (hb : Below w0.heap.size w0 W) (htab : Tabs w0) (hB : B ≤ W.heap.size) (hdm : d < B ∧ m < B) (hw0 : w0.heap.size ≤ m) (hg : (W.alloc o).grownBy w1 sv.ownBlock) : Aft w0 w1 B d m tv R text vn born clk := by
  have b1 : Below B W w1 := ((Below.refl B W).alloc hB _).grown hg (by simp; omega) (fun k hk => (ho.lt k hk).1)
  have b0 : Below w0.heap.size w0 w1 := hb.trans (b1.mono (by omega))
  exact ⟨hd.belowB b1 hdm.1 hdm.2, (ht.below ((Below.refl _ _).alloc (Nat.le_refl _) o)).grown hg (own_not21 (ho.alloc o)), htab.below b0, b0, Nat.le_trans hB b1.size⟩

theorem after3 {w0 w1 w2 w3 : World} {B d m : Nat} {tv : Value} {R : List Int} {text text' : ByteArray} {vn vn' : Int} {born clk : Nat} (h : Aft w0 w1 B d m tv R text vn born clk) (_hB : B ≤ w0.heap.size ∨ True) (hdm : d < B ∧ m < B) (hw0 : w0.heap.size ≤ m) (htab : Tabs w0) (hb : Below w1.heap.size w1 w2) (hw : w3 = w2.putObj m (.map (oneE text' vn' born) clk)) : Aft w0 w3 B d m tv R text' vn' born clk := by
  obtain ⟨h1, h2, h3, h4, h5⟩ := h
  have hd2 := h1.below hb
  have hg := grownBy_putObj w2 m (.map (oneE text' vn' born) clk)
  have hs := h4.size
  have hs2 := hb.size
  have b0 : Below w0.heap.size w0 w3 := by
    rw [hw]
    exact (h4.trans (hb.mono hs)).grown hg (by omega) (fun k e => by cases e; exact hw0)
  refine ⟨?_, ?_, htab.below b0, b0, ?_⟩
  · rw [hw]; exact hd2.put _ _
  · rw [hw]; exact (h2.below hb).grown hg (map_not21 hd2)
  · rw [hw]; have := hg.size; omega

theorem after4 {w0 w3 w4 : World} {B d m : Nat} {tv : Value} {R : List Int} {text : ByteArray} {vn : Int} {born clk : Nat} (h : Aft w0 w3 B d m tv R text vn born clk) (hb : Below w3.heap.size w3 w4) : Aft w0 w4 B d m tv R text vn born clk := by
  obtain ⟨h1, h2, h3, h4, h5⟩ := h
  exact ⟨h1.below hb, h2.below hb, h3.below hb, h4.trans (hb.mono h4.size), Nat.le_trans h5 hb.size⟩

theorem mid4 {w0 w4 : World} {B d m i : Nat} {tv : Value} {R : List Int} {vn : Int} {born clk : Nat} (h : Aft w0 w4 B d m tv R (runesBytes R) vn born clk) (hA : ∀ c ∈ R, InA c) (hl : R.length ≤ 40 + 10 * i) (hv : 1 ≤ vn ∧ vn ≤ i + 1) (o : Obj) : Mid w0 (w4.alloc o) B d m i vn tv (.slice none 0 0) R := by
  have HA5 := after4 h ((Below.refl _ _).alloc (Nat.le_refl _) o)
  exact ⟨HA5.2.1, hA, hl, hv, HA5.2.2.2.1, HA5.2.2.2.2, R, [], born, clk, HA5.1, hA, hl, Nat.zero_le _, trivial, rfl, World.ownsRow_nil _ _ _ _⟩

set_option maxRecDepth 1000000 in
set_option maxHeartbeats 16000000 in
theorem s30 (x0 x3 x4 x5 x6 x12 x13 x15 x16 x17 x18 x19 x20 x21 x22 x23 x24 x25 x26 x27 x28 x29 x30 x31 x32 x33 x34 x35 x36 x37 x38 x39 x40 x41 x42 x43 x44 x45 x46 x47 x48 x49 x50 x51 x52 x53 x54 x55 x56 x57 x58 x59 x60 x61 x62 x63 x64 x65 x66 x67 x68 x69 x70 x71 x72 x73 x74 x75 x76 x77 x78 x79 x80 x81 x82 x83 x84 x85 x86 x87 x88 x89 x90 x91 x92 x93 x94 x95 x96 x97 x98 x99 x100 x101 x102 x103 x104 x105 x106 x107 x108 x109 x110 x111 x112 x113 x114 x115 x116 x117 x118 x119 x120 x121 x122 x123 x124 x125 x126 x127 x128 x129 x130 x131 x132 x133 x134 x135 x136 x137 x138 x139 x140 x141 x142 x143 x144 x145 x146 x147 x148 x149 x150 x151 x152 x153 x154 x155 x156 x157 x158 x159 x160 x161 x162 x163 x164 x165 x166 x167 x168 x169 x170 x171 x172 x173 x174 x175 x176 x177 x178 x179 x180 x181 x182 x183 x184 x185 x186 x187 x188 x189 x190 x191 x192 x193 x194 x195 x196 x197 x198 x199 x200 x201 x202 x203 x204 x205 x206 x207 x208 x209 x210 x211 x212 x213 x214 x215 x216 x217 x218 x219 x220 x221 x222 x223 x224 x225 x226 x227 x228 x229 x230 x231 x232 x233 x234 x235 x236 x237 x238 x239 x240 x241 x242 x243 x244 x245 x246 x247 x248 x249 x250 x251 x252 x253 lv tv sv : Value) (B d m bc i0 born clk : Nat) (vn calls : Int) (R0 R' : List Int) (chs cs : List Chg) (c : Chg) (hcs : chs ++ [c] = cs) (L : List Ty) (w0 W : World) (K : Act → World → Prop) (Q : Exit → Act → World → Prop)
    (hi1 : i0 < L.length) (hi2 : i0 < 12) (hllen : ∀ (W : World) (ty : TypeId), (Builtin.len_ #[23] ty #[lv]).run Tryd.prog W = .ok (.int .i64 L.length) W)
    (hc16 : 0 ≤ calls ∧ calls < 65536)
    (htx : RunesAt W tv R') (hA : ∀ c ∈ R', InA c) (hlen : R'.length ≤ 40 + 10 * (i0 + 1)) (hver : 1 ≤ vn ∧ vn ≤ i0 + 1) (hbel : Below w0.heap.size w0 W) (hbase : B ≤ W.heap.size) (hdm : d < B ∧ m < B) (hw0 : w0.heap.size ≤ m)
    (hd : DocsAt W d m (oneE (runesBytes R0) vn born) clk) (hA0 : ∀ c ∈ R0, InA c) (hl0 : R0.length ≤ 40 + 10 * i0) (hcl : chs.length ≤ i0) (hfit : FitsAll R0 cs) (hfold : cs.foldl stepC R0 = R')
    (hown : W.ownsRow B 39 6 sv chs.length (chs.flatMap chgCells)) (hch : ChgAt W bc 0 c) (htabs : Tabs w0)
    (hK : ∀ (y6 y21 y22 y161 y162 y163 y164 y165 y166 y167 y168 y169 y170 y171 y172 y173 y174 y175 y176 y177 y178 y179 y180 y181 y182 y183 y184 y185 y186 y187 y188 y189 y190 y191 y192 y193 y194 y195 y196 y197 y198 y199 y200 y201 y202 y203 y204 s' : Value) (vn' : Int) (W' : World), Mid w0 W' B d m (i0 + 1) vn' tv s' R' → K ⟨#[x0, lv, .int .u16 calls, x3, x4, x5, y6, tv, .pointer (some ⟨d, 0, none⟩), s', .int .i64 vn', .int .i64 (i0 : Int), x12, x13, .pointer (some ⟨bc, 0, none⟩), x15, x16, x17, x18, x19, x20, y21, y22, x23, x24, x25, x26, x27, x28, x29, x30, x31, x32, x33, x34, x35, x36, x37, x38, x39, x40, x41, x42, x43, x44, x45, x46, x47, x48, x49, x50, x51, x52, x53, x54, x55, x56, x57, x58, x59, x60, x61, x62, x63, x64, x65, x66, x67, x68, x69, x70, x71, x72, x73, x74, x75, x76, x77, x78, x79, x80, x81, x82, x83, x84, x85, x86, x87, x88, x89, x90, x91, x92, x93, x94, x95, x96, x97, x98, x99, x100, x101, x102, x103, x104, x105, x106, x107, x108, x109, x110, x111, x112, x113, x114, x115, x116, x117, x118, x119, x120, x121, x122, x123, x124, x125, x126, x127, x128, x129, x130, x131, x132, x133, x134, x135, x136, x137, x138, x139, x140, x141, x142, x143, x144, x145, x146, x147, x148, x149, x150, x151, x152, x153, x154, x155, x156, x157, x158, x159, x160, y161, y162, y163, y164, y165, y166, y167, y168, y169, y170, y171, y172, y173, y174, y175, y176, y177, y178, y179, y180, y181, y182, y183, y184, y185, y186, y187, y188, y189, y190, y191, y192, y193, y194, y195, y196, y197, y198, y199, y200, y201, y202, y203, y204, x205, x206, x207, x208, x209, x210, x211, x212, x213, x214, x215, x216, x217, x218, x219, x220, x221, x222, x223, x224, x225, x226, x227, x228, x229, x230, x231, x232, x233, x234, x235, x236, x237, x238, x239, x240, x241, x242, x243, x244, x245, x246, x247, x248, x249, x250, x251, x252, x253], []⟩ W') :
    Code.wp Tryd.prog S30 (Exit.then K Q) ⟨#[x0, lv, .int .u16 calls, x3, x4, x5, x6, tv, .pointer (some ⟨d, 0, none⟩), sv, .int .i64 vn, .int .i64 (i0 : Int), x12, x13, .pointer (some ⟨bc, 0, none⟩), x15, x16, x17, x18, x19, x20, x21, x22, x23, x24, x25, x26, x27, x28, x29, x30, x31, x32, x33, x34, x35, x36, x37, x38, x39, x40, x41, x42, x43, x44, x45, x46, x47, x48, x49, x50, x51, x52, x53, x54, x55, x56, x57, x58, x59, x60, x61, x62, x63, x64, x65, x66, x67, x68, x69, x70, x71, x72, x73, x74, x75, x76, x77, x78, x79, x80, x81, x82, x83, x84, x85, x86, x87, x88, x89, x90, x91, x92, x93, x94, x95, x96, x97, x98, x99, x100, x101, x102, x103, x104, x105, x106, x107, x108, x109, x110, x111, x112, x113, x114, x115, x116, x117, x118, x119, x120, x121, x122, x123, x124, x125, x126, x127, x128, x129, x130, x131, x132, x133, x134, x135, x136, x137, x138, x139, x140, x141, x142, x143, x144, x145, x146, x147, x148, x149, x150, x151, x152, x153, x154, x155, x156, x157, x158, x159, x160, x161, x162, x163, x164, x165, x166, x167, x168, x169, x170, x171, x172, x173, x174, x175, x176, x177, x178, x179, x180, x181, x182, x183, x184, x185, x186, x187, x188, x189, x190, x191, x192, x193, x194, x195, x196, x197, x198, x199, x200, x201, x202, x203, x204, x205, x206, x207, x208, x209, x210, x211, x212, x213, x214, x215, x216, x217, x218, x219, x220, x221, x222, x223, x224, x225, x226, x227, x228, x229, x230, x231, x232, x233, x234, x235, x236, x237, x238, x239, x240, x241, x242, x243, x244, x245, x246, x247, x248, x249, x250, x251, x252, x253], []⟩ W := by
  conv => arg 2; whnf
  have hu39 := Tryd.underlying39
  have hu37 := Tryd.underlying37
  have hu35 := Tryd.underlying35
  have hu45 := Tryd.underlying45
  have q0 := hch.c0
  have q1 := hch.c1
  have q2 := hch.c2
  have q3 := hch.c3
  have q4 := hch.c4
  have q5 := hch.c5
  simp only [Nat.zero_add] at q1 q2 q3 q4 q5
  have hcsl : cs.length ≤ 12 := by rw [← hcs]; simp; omega
  have hcsi : cs.length ≤ i0 + 1 := by rw [← hcs]; simp; omega
  have Hcs := Lib.hid hcs
  clear hcs
  have Ho := Lib.hid hown
  have Hd := Lib.hid hd
  have Ht := Lib.hid htx
  have HpK := Lib.hid hK
  have HA := Lib.hid hA
  have HA0 := Lib.hid hA0
  have Hfit := Lib.hid hfit
  have Hfold := Lib.hid hfold
  have Hbel := Lib.hid hbel
  have Htab := Lib.hid htabs
  have hn21 := Lib.hid (own_not21 hown)
  have hlt := Lib.hid hown.lt
  clear hown hd htx hK hA hA0 hfit hfold hbel htabs hch
  go_wp2_with (first
    | (at_builtin; refine append_chg' rfl (.tmp 161) (.tmp 163) rfl B W.heap.size sv chs cs c Hcs.out rfl (Ho.out.alloc _) rfl (chg_new W c) (by omega) (by simp; omega) ?_; intro g1 cap1 w1 hown1 hg1; have HA1 := after1 Ho.out Hd.out Ht.out Hbel.out Htab.out hbase hdm hw0 hg1; have Hown1 := Lib.hid hown1; clear hown1 hg1)
    | (go_at_call 8; refine (change_any d m clk born g1 0 cap1 R0 vn (vn + 1) (by omega) cs HA0.out Hfit.out (by omega) w1 HA1.2.2.1 (fun j hj => chgs_at Hown1.out j hj) HA1.1).mono ?_; rintro e w3 ⟨rfl, w2, hb2, hw3⟩; rw [Hfold.out] at hw3; have HA3 := after3 HA1 (.inr trivial) hdm hw0 Htab.out hb2 hw3; clear hw3)
    | (go_at_call 9; refine (get_any d m clk born (runesBytes R') (vn + 1) w3 HA3.1).mono ?_; rintro e w4 ⟨rfl, hb4⟩; have htx4 := fun o : Obj => ((HA3.2.1.below hb4).below ((Below.refl _ _).alloc (Nat.le_refl _) o)).text; have HA4 := after4 HA3 hb4)
    | go_in)
  · apply HpK.out
    exact mid4 HA4 HA.out (by omega) (by omega) _
  · apply HpK.out
    exact mid4 HA4 HA.out (by omega) (by omega) _
  · apply HpK.out
    exact ⟨HA1.2.1, HA.out, by omega, by omega, HA1.2.2.2.1, HA1.2.2.2.2, R0, cs, born, clk, HA1.1, HA0.out, by omega, hcsi, Hfit.out, Hfold.out, Hown1.out⟩

end Go.Proofs.YtppjpkkkogmhfaaDoor
