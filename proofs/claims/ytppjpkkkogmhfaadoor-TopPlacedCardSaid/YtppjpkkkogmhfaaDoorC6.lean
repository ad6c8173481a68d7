/- This text proves a part of emendtop.TopPlaced: what changes mean for a row of runes, in plain words. Its conditions stand ahead of each theorem. -/
import Derived.Test.YtppjpkkkogmhfaaDoorC5
namespace Go.Proofs.YtppjpkkkogmhfaaDoor
open Go.RowKit Go.Shelf

/-- a change, as it is told (by lines and units), and what it means in runes -/
structure Chg where
  whole : Bool
  l1 : Int
  c1 : Int
  l2 : Int
  c2 : Int
  put : List Int
  a : Nat
  b : Nat

def stepC (R : List Int) (x : Chg) : List Int := if x.whole = true then x.put else R.take x.a ++ x.put ++ R.drop x.b

def FitsC (R : List Int) (x : Chg) : Prop :=
  (∀ c ∈ x.put, InA c) ∧ x.put.length ≤ 10 ∧
  (x.whole = false → x.a ≤ x.b ∧ x.b ≤ R.length ∧ 0 ≤ x.l1 ∧ 0 ≤ x.c1 ∧ 0 ≤ x.l2 ∧ 0 ≤ x.c2 ∧
    offOf (runesBytes R) R x.l1 x.c1 = ((bs (R.take x.a)).length : Int) ∧ offOf (runesBytes R) R x.l2 x.c2 = ((bs (R.take x.b)).length : Int))

def FitsAll : List Int → List Chg → Prop
  | _, [] => True
  | R, x :: l => FitsC R x ∧ FitsAll (stepC R x) l

theorem FitsAll.at : ∀ {R : List Int} {l : List Chg} {k : Nat} (h : k < l.length), FitsAll R l → FitsC ((l.take k).foldl stepC R) l[k]
  | R, [], k, h, _ => absurd h (Nat.not_lt_zero _)
  | R, x :: l, 0, _, hf => hf.1
  | R, x :: l, k + 1, h, hf => FitsAll.at (k := k) (by simpa using h) hf.2

theorem mem_step {R : List Int} {x : Chg} (hR : ∀ c ∈ R, InA c) (hx : FitsC R x) : ∀ c ∈ stepC R x, InA c := by
  intro c hc
  unfold stepC at hc
  split at hc
  · exact hx.1 c hc
  · rcases List.mem_append.1 hc with hc | hc
    · rcases List.mem_append.1 hc with hc | hc
      · exact hR c (List.mem_of_mem_take hc)
      · exact hx.1 c hc
    · exact hR c (List.mem_of_mem_drop hc)

theorem len_step {R : List Int} {x : Chg} (hx : FitsC R x) : (stepC R x).length ≤ R.length + 10 := by
  unfold stepC
  split
  · have := hx.2.1; omega
  · rename_i hw
    have h2 := hx.2.2 (by simpa using hw)
    have := hx.2.1
    simp only [List.length_append, List.length_take, List.length_drop]
    omega

theorem foldl_ok : ∀ (l : List Chg) (R : List Int), (∀ c ∈ R, InA c) → FitsAll R l → (∀ c ∈ l.foldl stepC R, InA c) ∧ (l.foldl stepC R).length ≤ R.length + 10 * l.length
  | [], R, hR, _ => ⟨hR, by simp⟩
  | x :: l, R, hR, hf => by
    have h := foldl_ok l (stepC R x) (mem_step hR hf.1) hf.2
    have h2 := len_step hf.1
    refine ⟨h.1, ?_⟩
    simp only [List.foldl_cons, List.length_cons]
    have := h.2
    omega

theorem fitsAll_take : ∀ (l : List Chg) (R : List Int) (k : Nat), FitsAll R l → FitsAll R (l.take k)
  | [], R, k, h => by simp [FitsAll]
  | x :: l, R, 0, h => by simp [FitsAll]
  | x :: l, R, k + 1, h => ⟨h.1, fitsAll_take l (stepC R x) k h.2⟩

theorem bs_length_le : ∀ R : List Int, (∀ c ∈ R, InA c) → (bs R).length ≤ 4 * R.length
  | [], _ => by simp [bs]
  | c :: R, h => by
    have h1 := bl_length c (h c (List.mem_cons_self ..))
    have h2 := bs_length_le R (fun x hx => h x (List.mem_cons_of_mem _ hx))
    rw [bs_cons, List.length_append, List.length_cons]
    omega

theorem bytes_ext {a b : ByteArray} (h : a.data.toList = b.data.toList) : a = b := by
  cases a; cases b
  congr 1
  exact Array.toList_inj.1 h

theorem splice (R put : List Int) (a b : Nat) : ((runesBytes R).extract 0 (bs (R.take a)).length ++ runesBytes put) ++ (runesBytes R).extract (bs (R.take b)).length (runesBytes R).size = runesBytes (R.take a ++ put ++ R.drop b) := by
  apply bytes_ext
  have h1 : bs R = bs (R.take a) ++ bs (R.drop a) := by rw [← bs_append, List.take_append_drop]
  have h2 : bs R = bs (R.take b) ++ bs (R.drop b) := by rw [← bs_append, List.take_append_drop]
  simp only [ByteArray.data_append, Array.toList_append, Lib.extract_data, runes_toList, size_list (runesBytes R) (bs R) (runes_toList R)]
  rw [bs_append, bs_append]
  congr 1
  · congr 1
    rw [h1]
    simp
  · conv => lhs; rw [h2]
    simp

end Go.Proofs.YtppjpkkkogmhfaaDoor
