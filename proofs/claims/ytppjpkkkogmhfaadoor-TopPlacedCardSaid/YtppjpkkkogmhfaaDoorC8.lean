/- This text proves a part of emendtop.TopPlaced: a document is changed: function 8, where the changes fit. Its conditions stand ahead of each theorem. -/
import Derived.Test.YtppjpkkkogmhfaaDoorC7
namespace Go.Proofs.YtppjpkkkogmhfaaDoor
open Go.RowKit Go.Shelf

set_option maxRecDepth 1000000 in
set_option maxHeartbeats 4000000 in
theorem change_any (d m clk born b off cap : Nat) (R0 : List Int) (ver ver' : Int) (hv : ver < ver') (chs : List Chg) (hR : ∀ c ∈ R0, InA c) (hf : FitsAll R0 chs) (hlen : R0.length + 10 * chs.length ≤ 10000) (w : World) (ht : Tabs w)
    (hc : ∀ j (h : j < chs.length), ChgAt w b (off + j * 6) chs[j]) (h : DocsAt w d m (oneE (runesBytes R0) ver born) clk) :
    Calls Tryd.prog 8 #[.pointer (some ⟨d, 0, none⟩), .string ⟨#[102, 105, 108, 101, 58, 47, 47, 47, 112, 47, 97, 46, 103, 111]⟩, .int .i64 ver', .slice (some ⟨b, off, none⟩) chs.length cap] w fun e w' =>
      e = .returned (.int .i64 0) ∧ ∃ w1, Below w.heap.size w w1 ∧ w' = w1.putObj m (.map (oneE (runesBytes (chs.foldl stepC R0)) ver' born) clk) := by
  have hu55 := Tryd.underlying55
  have hu53 := Tryd.underlying53
  have hu45 := Tryd.underlying45
  have hc1 := h.cell
  have hdl := World.block_lt_of_cell? _ _ hc1
  simp only at hdl
  have hlk := look_hit (k := uri) h.map
  have hvd : decide (ver' ≤ ver) = false := decide_eq_false (by omega)
  have hba : Below w.heap.size w (w.alloc (.cells #[.string uri, .string (runesBytes R0), .int .i64 ver] 45)) := (Below.refl _ _).alloc (Nat.le_refl _) _
  have H := Lib.hid h
  have HA := Lib.hid (after_any b off cap R0 chs hR hf hlen (w.alloc (.cells #[.string uri, .string (runesBytes R0), .int .i64 ver] 45)) (ht.below hba) (fun j hj => (hc j hj).below hba))
  have HBA := Lib.hid hba
  clear h ht hR hf hc hba
  go_enter Tryd.func8, Tryd.ntmps8
  go_wp2_with (first
    | (go_at_call 13; refine (is_any _ d m _ _ H.out).mono ?_; rintro e w' ⟨rfl, rfl⟩)
    | (go_at_call 16; refine (HA.out).mono ?_; rintro e w1 ⟨rfl, hb1⟩; have hb2 := HBA.out.trans (hb1.mono (by simp)); have hd2 := H.out.below hb2; have hc2 := hd2.cell; have hup := upd_hit (k := uri) (v := docV (runesBytes (chs.foldl stepC R0)) ver') hd2.map))
  go_ret
  exact ⟨rfl, w1, hb2, rfl⟩

end Go.Proofs.YtppjpkkkogmhfaaDoor
