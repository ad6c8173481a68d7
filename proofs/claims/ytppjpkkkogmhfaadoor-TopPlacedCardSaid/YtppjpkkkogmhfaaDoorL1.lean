/- This text proves a part of emendtop.TopPlaced: the bytes of the alphabet's runes, in plain words. Its conditions stand ahead of each theorem. -/
import Derived.Lib.DecodeN
import Derived.Lib.ValidLaws
import Derived.Lib.IndexAny
import Derived.Lib.Strings
import Derived.Laws.Cover4
namespace Go.Proofs.YtppjpkkkogmhfaaDoor

/-- the runes of the statement's alphabet -/
def InA (c : Int) : Prop := c = 97 ∨ c = 98 ∨ c = 233 ∨ c = 128512 ∨ c = 10 ∨ c = 8364

def bl (c : Int) : List UInt8 := (Utf8.encode c).data.toList
def bs (R : List Int) : List UInt8 := R.flatMap bl

theorem bl97 : bl 97 = [97] := by decide +kernel
theorem bl98 : bl 98 = [98] := by decide +kernel
theorem bl233 : bl 233 = [195, 169] := by decide +kernel
theorem bl128512 : bl 128512 = [240, 159, 152, 128] := by decide +kernel
theorem bl10 : bl 10 = [10] := by decide +kernel
theorem bl8364 : bl 8364 = [226, 130, 172] := by decide +kernel

theorem foldl_bytes (R : List Int) : ∀ s : ByteArray, (R.foldl (fun r n => r ++ Utf8.encode n) s).data.toList = s.data.toList ++ bs R := by
  induction R with
  | nil => intro s; simp [bs]
  | cons c R ih =>
    intro s
    simp only [List.foldl_cons]
    rw [ih]
    simp [bs, bl, ByteArray.data_append]

theorem runes_toList (R : List Int) : (runesBytes R).data.toList = bs R := by
  unfold runesBytes
  rw [foldl_bytes]
  rfl

theorem bs_nil : bs [] = [] := rfl
theorem bs_cons (c : Int) (R : List Int) : bs (c :: R) = bl c ++ bs R := rfl
theorem bs_append (R S : List Int) : bs (R ++ S) = bs R ++ bs S := by simp [bs]

theorem bl_length (c : Int) (h : InA c) : 1 ≤ (bl c).length ∧ (bl c).length ≤ 4 := by
  rcases h with rfl | rfl | rfl | rfl | rfl | rfl
  · rw [bl97]; decide
  · rw [bl98]; decide
  · rw [bl233]; decide
  · rw [bl128512]; decide
  · rw [bl10]; decide
  · rw [bl8364]; decide

theorem get_bang (s : ByteArray) (l : List UInt8) (h : s.data.toList = l) (i : Nat) : s.get! i = l[i]?.getD 0 := by
  subst h
  show s.data[i]! = _
  rw [Array.getElem!_eq_getD, Array.getD_eq_getD_getElem?, Array.getElem?_toList]
  rfl

theorem size_list (s : ByteArray) (l : List UInt8) (h : s.data.toList = l) : s.size = l.length := by
  subst h
  exact Lib.size_eq s

theorem get_mid (s : ByteArray) (A B C : List UInt8) (h : s.data.toList = A ++ (B ++ C)) (k : Nat) (hk : k < B.length) : s.get! (A.length + k) = B[k]?.getD 0 := by
  rw [get_bang s _ h, List.getElem?_append_right (by omega), List.getElem?_append_left (by omega)]
  congr 2
  omega

theorem decode_mid (s : ByteArray) (A C : List UInt8) (c : Int) (hc : InA c) (h : s.data.toList = A ++ (bl c ++ C)) : Utf8.decode s A.length = (c.toNat, (bl c).length) := by
  have hs : s.size - A.length = (bl c).length + C.length := by rw [size_list s _ h]; simp
  rw [Lib.decode_at, hs]
  have g := get_mid s A (bl c) C h
  rcases hc with rfl | rfl | rfl | rfl | rfl | rfl
  · rw [bl97] at g ⊢
    have g0 := g 0 (by decide)
    rw [Nat.add_zero] at g0
    rw [g0]
    simp [Lib.decodeN]
  · rw [bl98] at g ⊢
    have g0 := g 0 (by decide)
    rw [Nat.add_zero] at g0
    rw [g0]
    simp [Lib.decodeN]
  · rw [bl233] at g ⊢
    have g0 := g 0 (by decide)
    rw [Nat.add_zero] at g0
    rw [g0, g 1 (by decide)]
    simp [Lib.decodeN]
    omega
  · rw [bl128512] at g ⊢
    have g0 := g 0 (by decide)
    rw [Nat.add_zero] at g0
    rw [g0, g 1 (by decide), g 2 (by decide), g 3 (by decide)]
    simp [Lib.decodeN]
    omega
  · rw [bl10] at g ⊢
    have g0 := g 0 (by decide)
    rw [Nat.add_zero] at g0
    rw [g0]
    simp [Lib.decodeN]
  · rw [bl8364] at g ⊢
    have g0 := g 0 (by decide)
    rw [Nat.add_zero] at g0
    rw [g0, g 1 (by decide), g 2 (by decide)]
    simp [Lib.decodeN]
    omega

theorem decode_runes (s : ByteArray) (R P Q : List Int) (c : Int) (hs : s.data.toList = bs R) (hc : InA c) (h : R = P ++ c :: Q) : Utf8.decode s (bs P).length = (c.toNat, (bl c).length) :=
  decode_mid s (bs P) (bs Q) c hc (by rw [hs, h, bs_append, bs_cons])

theorem validD_bs : ∀ R : List Int, (∀ c ∈ R, InA c) → Lib.validD (bs R) = true
  | [], _ => Lib.validD_nil
  | c :: R, h => by
    have hc := h c (List.mem_cons_self ..)
    have hl := bl_length c hc
    have ih := validD_bs R (fun x hx => h x (List.mem_cons_of_mem _ hx))
    have hne : bs (c :: R) ≠ [] := by
      rw [bs_cons]
      intro e
      have := congrArg List.length e
      rw [List.length_append, List.length_nil] at this
      omega
    have hd : Lib.decodeL (bs (c :: R)) = (c.toNat, (bl c).length) := by
      have := decode_mid ⟨(bs (c :: R)).toArray⟩ [] (bs R) c hc (by simp [bs_cons])
      exact this
    rw [Lib.validD_step _ hne, hd]
    have e : (bs (c :: R)).drop (bl c).length = bs R := by rw [bs_cons]; simp
    simp only [e, ih]
    have : ¬ (c.toNat = 65533 ∧ (bl c).length = 1) := by
      rcases hc with rfl | rfl | rfl | rfl | rfl | rfl <;> decide
    rw [if_neg this]

/-- a rune of the alphabet has a byte 10 or 13 just where it is the line's end -/
theorem bl_clean (c : Int) (hc : InA c) (h : c ≠ 10) : ∀ b ∈ bl c, ([13, 10] : List UInt8).contains b = false := by
  rcases hc with rfl | rfl | rfl | rfl | rfl | rfl
  · rw [bl97]; decide
  · rw [bl98]; decide
  · rw [bl233]; decide
  · rw [bl128512]; decide
  · exact absurd rfl h
  · rw [bl8364]; decide

theorem bs_clean : ∀ R : List Int, (∀ c ∈ R, InA c) → (∀ c ∈ R, c ≠ 10) → ∀ b ∈ bs R, ([13, 10] : List UInt8).contains b = false
  | [], _, _ => by simp [bs]
  | c :: R, h, h' => by
    intro b hb
    rw [bs_cons, List.mem_append] at hb
    rcases hb with hb | hb
    · exact bl_clean c (h c (List.mem_cons_self ..)) (h' c (List.mem_cons_self ..)) b hb
    · exact bs_clean R (fun x hx => h x (List.mem_cons_of_mem _ hx)) (fun x hx => h' x (List.mem_cons_of_mem _ hx)) b hb

theorem noAny_of (l t : List UInt8) (h : ∀ b ∈ l, ([13, 10] : List UInt8).contains b = false) : Lib.NoAny (l ++ t) [13, 10] l.length := by
  intro j b hj hb
  rw [List.getElem?_append_left hj] at hb
  exact h b (List.mem_of_getElem? hb)

theorem indexAny_hit10 (P Q : List Int) (hP : ∀ c ∈ P, InA c) (hP' : ∀ c ∈ P, c ≠ 10) : Lib.indexAny (bs (P ++ 10 :: Q)) [13, 10] = (bs P).length := by
  refine Lib.indexAny_hit (x := 10) ?_ ?_ (by decide)
  · rw [bs_append]
    exact noAny_of _ _ (bs_clean P hP hP')
  · rw [bs_append, List.getElem?_append_right (by omega), bs_cons, bl10]
    simp

theorem indexAny_none10 (P : List Int) (hP : ∀ c ∈ P, InA c) (hP' : ∀ c ∈ P, c ≠ 10) : Lib.indexAny (bs P) [13, 10] = -1 := by
  refine Lib.indexAny_none ?_
  have := noAny_of (bs P) [] (bs_clean P hP hP')
  rwa [List.append_nil] at this

end Go.Proofs.YtppjpkkkogmhfaaDoor
