/- emendtop.TopPlaced returns true whatever bytes, typed changes and bits of calls come in, and its arguments read as they did. Its conditions: the library's tables acceptRanges, White_Space, asciiSpace and utf8.first hold what the program's own text lays. -/
import Derived.Test.YtppjpkkkogmhfaaDoorCards
import Derived.Test.YtppjpkkkogmhfaaDoorTie
import Derived.Test.YtppjpkkkogmhfaaDoorO2
import Derived.SevenTiedAt
namespace Go.Proofs.YtppjpkkkogmhfaaDoor
open Go

theorem topPlaced_card : Rows.TopPlacedCardSaid :=
  Claim7.holds_tied_plain_at .later [] [.data, .listed, .data, .pinned] true (true, "31dcf3ecb7e198b71ada9e9207f4f31df261a656e612c0b4c5ac1b1e51c98cdc") false
    topPlaced_holds (fun _ h => by cases h) (by kernel_rfl) (fun _ h => by cases h) topPlaced_row_tie rfl ⟨rfl, rfl⟩ (by kernel_rfl) rfl
    (fun f fn hf hfn => by
      obtain rfl : f = 3 := Option.some.inj ((show Tryd.prog.funcNamed "emend/emendtop.TopPlaced" = some 3 by kernel_rfl).symm.trans hf) |>.symm
      obtain rfl : fn = Tryd.f3 := (Option.some.inj (Tryd.func3.symm.trans hfn)).symm
      exact ⟨by kernel_rfl, fun j t ht => by
        rw [Tryd.params3] at ht
        have h3 : t = 22 ∨ t = 23 ∨ t = 24 := by
          rcases j with _ | _ | _ | j
          · exact .inl (by simpa using ht.symm)
          · exact .inr (.inl (by simpa using ht.symm))
          · exact .inr (.inr (by simpa using ht.symm))
          · simp at ht
        rcases h3 with rfl | rfl | rfl
        · exact (show Tryd.prog.wantsStandIn 22 = false by kernel_rfl)
        · exact (show Tryd.prog.wantsStandIn 23 = false by kernel_rfl)
        · exact (show Tryd.prog.wantsStandIn 24 = false by kernel_rfl)⟩)
    (by kernel_rfl)
#print axioms topPlaced_card
end Go.Proofs.YtppjpkkkogmhfaaDoor
