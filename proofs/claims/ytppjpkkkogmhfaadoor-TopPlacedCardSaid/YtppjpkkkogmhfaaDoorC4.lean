/- This text proves a part of emendtop.TopPlaced: a document is opened: function 6, at the one address. Its conditions stand ahead of each theorem. -/
import Derived.Test.YtppjpkkkogmhfaaDoorC3
namespace Go.Proofs.YtppjpkkkogmhfaaDoor
open Go.RowKit Go.Shelf

/-- one document, under one name -/
abbrev docV (text : ByteArray) (ver : Int) : Value := .agg #[.string uri, .string text, .int .i64 ver]
abbrev oneE (text : ByteArray) (ver : Int) (born : Nat) : Array MapEntry := #[{ key := .string uri, val := docV text ver, born }]

theorem DocsAt.below {w w' : World} {d m : Nat} {es : Array MapEntry} {clk : Nat} (h : DocsAt w d m es clk) (hb : Below w.heap.size w w') : DocsAt w' d m es clk :=
  ⟨(hb.cell (p := ⟨d, 0, none⟩) (World.block_lt_of_cell? w _ h.cell)).trans h.cell, (hb.block m (Array.getElem?_eq_some_iff.1 h.map).1).trans h.map⟩

/-- all but one block is as it was -/
def ButOne (w w' : World) (m : Nat) : Prop := w.heap.size ≤ w'.heap.size ∧ (∀ k, k < w.heap.size → k ≠ m → w'.heap[k]? = w.heap[k]?) ∧ w'.os = w.os ∧ w'.tape = w.tape ∧ w'.output = w.output

set_option maxRecDepth 1000000 in
set_option maxHeartbeats 4000000 in
theorem open_any (d m clk : Nat) (text : ByteArray) (R : List Int) (hs : text.data.toList = bs R) (hR : ∀ c ∈ R, InA c) (hsz : text.size ≤ 65536) (w : World) (ht : Tabs w) (h : DocsAt w d m #[] clk) :
    Calls Tryd.prog 6 #[.pointer (some ⟨d, 0, none⟩), .string ⟨#[102, 105, 108, 101, 58, 47, 47, 47, 112, 47, 97, 46, 103, 111]⟩, .string text, .int .i64 1] w fun e w' =>
      e = .returned (.int .i64 0) ∧ ∃ w1, Below w.heap.size w w1 ∧ w' = w1.putObj m (.map (oneE text 1 clk) (clk + 1)) := by
  have hu55 := Tryd.underlying55
  have hu53 := Tryd.underlying53
  have hu45 := Tryd.underlying45
  have H := Lib.hid h
  have HT := Lib.hid ht
  have HM := Lib.hid (fun (w : World) (ht : Tabs w) => may_any text R hs hR hsz w ht)
  clear h ht hs hR
  go_enter Tryd.func6, Tryd.ntmps6
  go_wp2_with (first
    | (go_at_call 13; refine (is_any _ d m _ _ H.out).mono ?_; rintro e w' ⟨rfl, rfl⟩)
    | (go_at_call 14; refine (dir_c _ HT.out).mono ?_; rintro e w1 ⟨rfl, hb1⟩; have hd1 := H.out.below hb1; have hc1 := hd1.cell; have hdl := World.block_lt_of_cell? _ _ hc1; simp only at hdl; have hlk := look_none (k := uri) hd1.map; have hml := (Array.getElem?_eq_some_iff.1 hd1.map).1; have hln := (fun (o : Obj) (ty : TypeId) => len_map ((Below.heap_alloc w1 o m hml).trans hd1.map) ty))
    | (go_at_call 15; refine (HM.out _ ((HT.out.below hb1).below ((Below.refl _ _).alloc (Nat.le_refl _) _))).mono ?_; rintro e w2 ⟨rfl, hb2⟩; have hb3 := ((Below.refl w1.heap.size w1).alloc (Nat.le_refl _) _).trans (hb2.mono (by simp)); have hd2 := hd1.below hb3; have hc2 := hd2.cell; have hup := upd_new (k := uri) (v := docV text 1) hd2.map))
  go_ret
  exact ⟨rfl, w2, hb1.trans (hb3.mono hb1.size), rfl⟩

end Go.Proofs.YtppjpkkkogmhfaaDoor
