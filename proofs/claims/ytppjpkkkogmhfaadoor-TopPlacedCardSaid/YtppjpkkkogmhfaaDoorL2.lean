/- This text proves a part of emendtop.TopPlaced: the lines of a row of runes, in plain words. Its conditions stand ahead of each theorem. -/
import Derived.Test.YtppjpkkkogmhfaaDoorL1
namespace Go.Proofs.YtppjpkkkogmhfaaDoor

/-- the lines of a text of runes: where each begins and ends, in bytes -/
def lnsF : Nat → Nat → List Int → List (Int × Int)
  | st, pos, [] => [((st : Int), (pos : Int))]
  | st, pos, c :: R => if c = 10 then ((st : Int), (pos : Int)) :: lnsF (pos + 1) (pos + 1) R else lnsF st (pos + (bl c).length) R
def lns (R : List Int) : List (Int × Int) := lnsF 0 0 R

theorem lnsF_none : ∀ (A : List Int) (st pos : Nat), (∀ c ∈ A, c ≠ 10) → lnsF st pos A = [((st : Int), ((pos + (bs A).length : Nat) : Int))]
  | [], st, pos, _ => by simp [lnsF, bs]
  | c :: A, st, pos, h => by
    rw [lnsF, if_neg (h c (List.mem_cons_self ..)), lnsF_none A st _ (fun x hx => h x (List.mem_cons_of_mem _ hx)), bs_cons, List.length_append, Nat.add_assoc]

theorem lnsF_hit : ∀ (A B : List Int) (st pos : Nat), (∀ c ∈ A, c ≠ 10) → lnsF st pos (A ++ 10 :: B) = ((st : Int), ((pos + (bs A).length : Nat) : Int)) :: lnsF (pos + (bs A).length + 1) (pos + (bs A).length + 1) B
  | [], B, st, pos, _ => by simp [lnsF, bs]
  | c :: A, B, st, pos, h => by
    rw [List.cons_append, lnsF, if_neg (h c (List.mem_cons_self ..)), lnsF_hit A B st _ (fun x hx => h x (List.mem_cons_of_mem _ hx)), bs_cons, List.length_append, Nat.add_assoc]

theorem split10 : ∀ Q : List Int, (∀ c ∈ Q, c ≠ 10) ∨ ∃ A B, Q = A ++ 10 :: B ∧ ∀ c ∈ A, c ≠ 10
  | [] => .inl (by simp)
  | c :: Q => by
    by_cases hc : c = 10
    · exact .inr ⟨[], Q, by rw [hc]; rfl, by simp⟩
    · rcases split10 Q with h | ⟨A, B, h, hA⟩
      · refine .inl (fun x hx => ?_)
        rcases List.mem_cons.1 hx with rfl | hx
        · exact hc
        · exact h x hx
      · refine .inr ⟨c :: A, B, by rw [h]; rfl, fun x hx => ?_⟩
        rcases List.mem_cons.1 hx with rfl | hx
        · exact hc
        · exact hA x hx

theorem lnsF_length : ∀ (Q : List Int) (st pos : Nat), 1 ≤ (lnsF st pos Q).length ∧ (lnsF st pos Q).length ≤ Q.length + 1
  | [], st, pos => by simp [lnsF]
  | c :: Q, st, pos => by
    by_cases hc : c = 10
    · rw [lnsF, if_pos hc]
      have := lnsF_length Q (pos + 1) (pos + 1)
      simp only [List.length_cons]
      omega
    · rw [lnsF, if_neg hc]
      have := lnsF_length Q st (pos + (bl c).length)
      simp only [List.length_cons]
      omega

theorem bs_drop (s : ByteArray) (P Q : List Int) (h : s.data.toList = bs (P ++ Q)) : (s.extract (bs P).length s.size).data.toList = bs Q := by
  rw [Lib.extract_data, h, bs_append, size_list s _ h, bs_append]
  simp

end Go.Proofs.YtppjpkkkogmhfaaDoor
