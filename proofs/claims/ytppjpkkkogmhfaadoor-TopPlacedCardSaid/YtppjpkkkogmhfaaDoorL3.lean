/- This text proves a part of emendtop.TopPlaced: places told by lines and units are places in bytes, in plain words. Its conditions stand ahead of each theorem. -/
import Derived.Test.YtppjpkkkogmhfaaDoorD1
namespace Go.Proofs.YtppjpkkkogmhfaaDoor

/-- the units of a row of runes -/
def us : List Int → Int
  | [] => 0
  | c :: A => units c + us A
theorem us_append : ∀ A B : List Int, us (A ++ B) = us A + us B
  | [], B => by simp [us]
  | c :: A, B => by simp only [List.cons_append, us, us_append A B]; omega
theorem us_nonneg : ∀ A : List Int, 0 ≤ us A
  | [] => by simp [us]
  | c :: A => by have := us_nonneg A; have := units_bd c; simp only [us]; omega

/-- the line ends in a row of runes -/
def nl : List Int → Nat
  | [] => 0
  | c :: P => if c = 10 then nl P + 1 else nl P

/-- where the last line begins -/
def ls : Nat → Nat → List Int → Nat
  | st, _, [] => st
  | st, pos, c :: P => if c = 10 then ls (pos + 1) (pos + 1) P else ls st (pos + (bl c).length) P

/-- the last line -/
def la : List Int → List Int → List Int
  | X, [] => X
  | X, c :: P => if c = 10 then la [] P else la (X ++ [c]) P

/-- what is ahead of the next line end -/
def hd : List Int → List Int
  | [] => []
  | c :: T => if c = 10 then [] else c :: hd T

theorem hd_split : ∀ T : List Int, ∃ T', T = hd T ++ T'
  | [] => ⟨[], rfl⟩
  | c :: T => by
    obtain ⟨T', h⟩ := hd_split T
    by_cases hc : c = 10
    · exact ⟨c :: T, by simp [hd, hc]⟩
    · refine ⟨T', ?_⟩
      conv => lhs; rw [h]
      simp [hd, hc]

theorem lnsF_head : ∀ (T : List Int) (st pos : Nat), ∃ r, lnsF st pos T = ((st : Int), ((pos + (bs (hd T)).length : Nat) : Int)) :: r ∧ (r = [] ∨ ∃ x r', r = x :: r' ∧ (pos : Int) < x.1)
  | [], st, pos => ⟨[], by simp [lnsF, hd, bs], .inl rfl⟩
  | c :: T, st, pos => by
    by_cases hc : c = 10
    · refine ⟨lnsF (pos + 1) (pos + 1) T, by simp [lnsF, hd, hc, bs], .inr ?_⟩
      obtain ⟨r, hr, _⟩ := lnsF_head T (pos + 1) (pos + 1)
      exact ⟨_, r, hr, by simp; omega⟩
    · obtain ⟨r, hr, h2⟩ := lnsF_head T st (pos + (bl c).length)
      refine ⟨r, ?_, ?_⟩
      · rw [lnsF, if_neg hc, hr, hd, if_neg hc, bs_cons, List.length_append, Nat.add_assoc]
      · rcases h2 with h2 | ⟨x, r', h2, h3⟩
        · exact .inl h2
        · exact .inr ⟨x, r', h2, by omega⟩

theorem lnsF_get : ∀ (P T : List Int) (st pos : Nat), (lnsF st pos (P ++ T))[nl P]? = some ((ls st pos P : Int), ((pos + (bs P).length + (bs (hd T)).length : Nat) : Int))
  | [], T, st, pos => by
    obtain ⟨r, hr, _⟩ := lnsF_head T st pos
    simp [nl, ls, bs, hr]
  | c :: P, T, st, pos => by
    by_cases hc : c = 10
    · have ih := lnsF_get P T (pos + 1) (pos + 1)
      have h1 : (bl c).length = 1 := by rw [hc, bl10]; rfl
      rw [List.cons_append, lnsF, if_pos hc, nl, if_pos hc, List.getElem?_cons_succ, ih, ls, if_pos hc, bs_cons, List.length_append, h1, Nat.add_assoc pos 1]
    · have ih := lnsF_get P T st (pos + (bl c).length)
      rw [List.cons_append, lnsF, if_neg hc, nl, if_neg hc, ih, ls, if_neg hc, bs_cons, List.length_append, Nat.add_assoc pos]

theorem lnsF_count : ∀ (R : List Int) (st pos : Nat), (lnsF st pos R).length = nl R + 1
  | [], st, pos => by simp [lnsF, nl]
  | c :: R, st, pos => by
    by_cases hc : c = 10
    · rw [lnsF, if_pos hc, nl, if_pos hc, List.length_cons, lnsF_count R]
    · rw [lnsF, if_neg hc, nl, if_neg hc, lnsF_count R]

theorem la_split : ∀ (P X0 X : List Int), ∃ P0, X0 ++ X ++ P = P0 ++ la X P ∧ (bs P0).length = ls (bs X0).length (bs (X0 ++ X)).length P
  | [], X0, X => ⟨X0, by simp [la], by simp [ls]⟩
  | c :: P, X0, X => by
    by_cases hc : c = 10
    · obtain ⟨P0, h1, h2⟩ := la_split P (X0 ++ X ++ [c]) []
      have h1' : (bl c).length = 1 := by rw [hc, bl10]; rfl
      have e : (bs (X0 ++ X ++ [c])).length = (bs (X0 ++ X)).length + 1 := by rw [bs_append (X0 ++ X), List.length_append, bs_cons, List.length_append, h1', bs_nil]; rfl
      refine ⟨P0, ?_, ?_⟩
      · rw [la, if_pos hc, ← h1]; simp
      · rw [h2, List.append_nil, e, ls, if_pos hc]
    · obtain ⟨P0, h1, h2⟩ := la_split P X0 (X ++ [c])
      refine ⟨P0, ?_, ?_⟩
      · rw [la, if_neg hc, ← h1]; simp
      · have e : (bs (X0 ++ (X ++ [c]))).length = (bs (X0 ++ X)).length + (bl c).length := by rw [← List.append_assoc, bs_append (X0 ++ X), List.length_append, bs_cons, List.length_append, bs_nil]; rfl
        rw [h2, e, ls, if_neg hc]

theorem posOf_fold : ∀ (P X : List Int) (l b : Int), P.foldl posStep (l, us X, b) = (l + nl P, us (la X P), b + ((bs P).length : Nat))
  | [], X, l, b => by simp [nl, la, bs]
  | c :: P, X, l, b => by
    rw [List.foldl_cons]
    by_cases hc : c = 10
    · have ih := posOf_fold P [] (l + 1) (b + ((bl c).length : Int))
      have e : posStep (l, us X, b) c = (l + 1, us [], b + ((bl c).length : Int)) := by simp [posStep, hc, us]
      rw [e, ih, nl, if_pos hc, la, if_pos hc, bs_cons, List.length_append]
      simp only [Prod.mk.injEq, true_and]
      omega
    · have ih := posOf_fold P (X ++ [c]) l (b + ((bl c).length : Int))
      have e : posStep (l, us X, b) c = (l, us (X ++ [c]), b + ((bl c).length : Int)) := by simp [posStep, hc, us_append, us]
      rw [e, ih, nl, if_neg hc, la, if_neg hc, bs_cons, List.length_append]
      simp only [Prod.mk.injEq, true_and]
      omega

theorem posOf_eq (P : List Int) : posOf P = ((nl P : Int), us (la [] P), ((bs P).length : Int)) := by
  have := posOf_fold P [] 0 0
  rw [posOf]
  simpa [us] using this

theorem toNat_units (c : Int) (h : InA c) : units (c.toNat : Int) = units c := by
  rcases h with rfl | rfl | rfl | rfl | rfl | rfl <;> rfl

theorem byteFrom_at (s : ByteArray) (want : Int) : ∀ (A2 A1 B : List Int) (f : Nat), s.data.toList = bs (A1 ++ A2 ++ B) → (∀ c ∈ A2 ++ B, InA c) → s.size ≤ (bs A1).length + f → us A1 + us A2 ≤ want → (B = [] ∨ want = us A1 + us A2) →
    byteFrom s want f (bs A1).length (us A1) = (((bs A1).length + (bs A2).length : Nat) : Int)
  | [], A1, B, f, hs, hA, hf, hw, hB => by
    rcases hB with rfl | rfl
    · have hsz := size_list s _ hs
      rw [byteFrom_end s want f _ _ (by rw [hsz]; simp), hsz]
      simp [bs]
    · cases B with
      | nil =>
        have hsz := size_list s _ hs
        rw [byteFrom_end s _ f _ _ (by rw [hsz]; simp), hsz]
        simp [bs]
      | cons b B =>
        have hb : InA b := hA b (by simp)
        have hsz := size_list s _ hs
        have hbl := bl_length b hb
        rw [List.append_nil, bs_append, List.length_append, bs_cons, List.length_append] at hsz
        have hd := decode_runes s (A1 ++ b :: B) A1 B b (by rw [hs]; simp) hb rfl
        obtain ⟨f', rfl⟩ : ∃ f', f = f' + 1 := ⟨f - 1, by omega⟩
        have hu := units_bd b
        rw [byteFrom, if_pos (by omega), hd]
        simp only [toNat_units b hb, us]
        rw [if_pos (by omega)]
        simp [bs]
  | c :: A2, A1, B, f, hs, hA, hf, hw, hB => by
    have hc : InA c := hA c (by simp)
    have hsz := size_list s _ hs
    have hbl := bl_length c hc
    rw [bs_append, bs_append, List.length_append, List.length_append, bs_cons, List.length_append] at hsz
    have hd := decode_runes s (A1 ++ c :: (A2 ++ B)) A1 (A2 ++ B) c (by rw [hs]; simp) hc rfl
    obtain ⟨f', rfl⟩ : ∃ f', f = f' + 1 := ⟨f - 1, by omega⟩
    have hu := us_nonneg A2
    have e1 : (bs (A1 ++ [c])).length = (bs A1).length + (bl c).length := by rw [bs_append, List.length_append, bs_cons, List.length_append, bs_nil]; rfl
    have e2 : us (A1 ++ [c]) = us A1 + units c := by rw [us_append]; simp [us]
    simp only [us] at hw hB
    have ih := byteFrom_at s want A2 (A1 ++ [c]) B f' (by rw [hs]; simp) (fun x hx => hA x (by simp only [List.cons_append, List.mem_cons]; exact .inr hx)) (by rw [e1]; omega) (by rw [e2]; omega) (by rcases hB with h | h; exact .inl h; exact .inr (by rw [e2]; omega))
    rw [byteFrom, if_pos (by omega), hd]
    simp only [toNat_units c hc]
    rw [if_neg (by omega), ← e1, ← e2, ih, e1, bs_cons, List.length_append, Nat.add_assoc]

theorem uaFrom_at (s : ByteArray) : ∀ (A2 A1 B : List Int) (f : Nat) (last : Int), s.data.toList = bs (A1 ++ A2 ++ B) → (∀ c ∈ A2 ++ B, InA c) → s.size ≤ (bs A1).length + f →
    uaFrom s (((bs A1).length + (bs A2).length : Nat) : Int) f (bs A1).length (us A1) last = us A1 + us A2
  | [], A1, B, f, last, hs, hA, hf => by
    have hsz := size_list s _ hs
    rw [List.append_nil, bs_append, List.length_append] at hsz
    simp only [bs_nil, List.length_nil, Nat.add_zero, us, Int.add_zero]
    by_cases hp : (bs A1).length < s.size
    · obtain ⟨f', rfl⟩ : ∃ f', f = f' + 1 := ⟨f - 1, by omega⟩
      rw [uaFrom, if_pos hp, if_neg (by omega), if_pos rfl]
    · rw [uaFrom_end s _ f _ _ _ hp, if_neg (by omega)]
  | c :: A2, A1, B, f, last, hs, hA, hf => by
    have hc : InA c := hA c (by simp)
    have hsz := size_list s _ hs
    have hbl := bl_length c hc
    rw [bs_append, bs_append, List.length_append, List.length_append, bs_cons, List.length_append] at hsz
    have hd := decode_runes s (A1 ++ c :: (A2 ++ B)) A1 (A2 ++ B) c (by rw [hs]; simp) hc rfl
    obtain ⟨f', rfl⟩ : ∃ f', f = f' + 1 := ⟨f - 1, by omega⟩
    have e1 : (bs (A1 ++ [c])).length = (bs A1).length + (bl c).length := by rw [bs_append, List.length_append, bs_cons, List.length_append, bs_nil]; rfl
    have e2 : us (A1 ++ [c]) = us A1 + units c := by rw [us_append]; simp [us]
    have ih := uaFrom_at s A2 (A1 ++ [c]) B f' (units c) (by rw [hs]; simp) (fun x hx => hA x (by simp only [List.cons_append, List.mem_cons]; exact .inr hx)) (by rw [e1]; omega)
    rw [uaFrom, if_pos (by omega), hd]
    simp only [toNat_units c hc, bs_cons, List.length_append]
    rw [if_neg (by omega), if_neg (by omega), ← e1, ← e2]
    rw [e1, Nat.add_assoc] at ih
    rw [e1, ih, e2]
    simp only [us]
    omega

theorem extract_mid (s : ByteArray) (P0 M T : List Int) (h : s.data.toList = bs (P0 ++ M ++ T)) : (s.extract (bs P0).length ((bs P0).length + (bs M).length)).data.toList = bs M := by
  rw [Lib.extract_data, h, bs_append, bs_append]
  simp

/-- the line in which a place stands -/
theorem line_at (R : List Int) (k : Nat) : ∃ P0 B T, R = P0 ++ la [] (R.take k) ++ B ++ T ∧ R.take k = P0 ++ la [] (R.take k) ∧ B = hd (R.drop k) ∧
    (lns R)[nl (R.take k)]? = some (((bs P0).length : Int), (((bs P0).length + (bs (la [] (R.take k) ++ B)).length : Nat) : Int)) ∧ ls 0 0 (R.take k) = (bs P0).length := by
  obtain ⟨P0, h1, h2⟩ := la_split (R.take k) [] []
  obtain ⟨T, hT⟩ := hd_split (R.drop k)
  simp only [List.nil_append, bs_nil, List.length_nil] at h1 h2
  refine ⟨P0, _, T, ?_, h1, rfl, ?_, h2.symm⟩
  · conv => lhs; rw [← List.take_append_drop k R, hT]
    rw [← List.append_assoc]
    conv => lhs; rw [h1]
  · have := lnsF_get (R.take k) (R.drop k) 0 0
    rw [List.take_append_drop] at this
    unfold lns
    rw [this, ← h2]
    have e : (bs (R.take k)).length = (bs P0).length + (bs (la [] (R.take k))).length := by
      conv => lhs; rw [h1]
      rw [bs_append, List.length_append]
    rw [e, bs_append, List.length_append, Nat.zero_add, Nat.add_assoc]

theorem hd_nil {T : List Int} (h : ∀ (h0 : 0 < T.length), T[0] = 10) : hd T = [] := by
  cases T with
  | nil => rfl
  | cons c T => have := h (by simp); simp at this; simp [hd, this]

theorem off_pos (R : List Int) (hR : ∀ c ∈ R, InA c) (k : Nat) (hk : k ≤ R.length) (dl dc : Int) (hdl : dl = 0 ∨ dl = 1 ∧ k = R.length) (hdc : dc = 0 ∨ 0 ≤ dc ∧ ∀ (h : k < R.length), R[k] = 10) :
    offOf (runesBytes R) R ((posOf (R.take k)).1 + dl) ((posOf (R.take k)).2.1 + dc) = ((bs (R.take k)).length : Int) := by
  have hs := runes_toList R
  have hsz := size_list _ _ hs
  rw [posOf_eq]
  simp only
  rcases hdl with rfl | ⟨rfl, rfl⟩
  · obtain ⟨P0, B, T, h1, h2, h3, h4, _⟩ := line_at R k
    have hl : lineOf R ((nl (R.take k) : Int) + 0) = (((bs P0).length : Int), (((bs P0).length + (bs (la [] (R.take k) ++ B)).length : Nat) : Int), true) := by
      unfold lineOf
      rw [Int.add_zero, if_pos (Int.natCast_nonneg _), Int.toNat_natCast, h4]
    unfold offOf
    rw [hl]
    simp only [if_pos, Int.toNat_natCast]
    have hs2 : R = P0 ++ (la [] (R.take k) ++ B) ++ T := by rw [← List.append_assoc P0]; exact h1
    have he := extract_mid (runesBytes R) P0 (la [] (R.take k) ++ B) T (hs.trans (congrArg bs hs2))
    have hBd : dc = 0 ∨ B = [] := by
      rcases hdc with h | ⟨_, h⟩
      · exact .inl h
      · refine .inr ?_
        rw [h3]
        exact hd_nil (fun h0 => by
          rw [List.length_drop] at h0
          rw [List.getElem_drop]
          simpa using h (by omega))
    have hdc0 : 0 ≤ dc := by rcases hdc with h | h <;> omega
    have hin : ∀ c ∈ la [] (R.take k) ++ B, InA c := fun c hc => hR c (by rw [h1]; simp only [List.mem_append] at hc ⊢; rcases hc with h | h <;> simp [h])
    have := byteFrom_at ((runesBytes R).extract (bs P0).length ((bs P0).length + (bs (la [] (R.take k) ++ B)).length)) (us (la [] (R.take k)) + dc) (la [] (R.take k)) [] B ((runesBytes R).extract (bs P0).length ((bs P0).length + (bs (la [] (R.take k) ++ B)).length)).size (by rw [he]; rfl) hin (Nat.le_add_left _ _) (by simp only [us]; omega) (by rcases hBd with rfl | h; exact .inr (by simp [us]); exact .inl h)
    rw [utfByte]
    simp only [bs_nil, List.length_nil, us, Nat.zero_add] at this
    rw [this]
    conv => rhs; rw [h2, bs_append, List.length_append]
    omega
  · have hl : lineOf R ((nl (R.take R.length) : Int) + 1) = (0, 0, false) := by
      unfold lineOf
      rw [if_pos (by omega)]
      have e : ((nl (R.take R.length) : Int) + 1).toNat = nl R + 1 := by rw [List.take_length]; omega
      have hn : (lns R)[nl R + 1]? = none := by
        rw [List.getElem?_eq_none_iff]
        have := lnsF_count R 0 0
        unfold lns
        omega
      rw [e, hn]
    unfold offOf
    rw [hl]
    simp [hsz]

theorem atFrom_at (s : ByteArray) : ∀ (P T : List Int) (st pos i : Nat) (p : Int × Int), st ≤ pos →
    atFrom s ((pos + (bs P).length : Nat) : Int) (lnsF st pos (P ++ T)) i p = (((i + nl P : Nat) : Int), utfUnitsAt (s.extract (ls st pos P) (pos + (bs P).length + (bs (hd T)).length)) (((pos + (bs P).length : Nat) : Int) - (ls st pos P : Int)))
  | [], T, st, pos, i, p, h => by
    obtain ⟨r, hr, h2⟩ := lnsF_head T st pos
    rw [List.nil_append, hr, atFrom, if_neg (by simp [bs]; omega)]
    simp only [Int.toNat_natCast, bs_nil, List.length_nil, Nat.add_zero, nl, ls]
    rcases h2 with rfl | ⟨x, r', rfl, h3⟩
    · rw [atFrom]
    · rw [atFrom, if_pos (by omega)]
  | c :: P, T, st, pos, i, p, h => by
    by_cases hc : c = 10
    · have h1 : (bl c).length = 1 := by rw [hc, bl10]; rfl
      have ih := fun q => atFrom_at s P T (pos + 1) (pos + 1) (i + 1) q (Nat.le_refl _)
      have e : pos + (bs (c :: P)).length = pos + 1 + (bs P).length := by rw [bs_cons, List.length_append, h1]; omega
      rw [List.cons_append, lnsF, if_pos hc, atFrom, if_neg (by simp only; omega), e, ih, nl, if_pos hc, ls, if_pos hc]
      simp only [Prod.mk.injEq, and_true]
      omega
    · have ih := atFrom_at s P T st (pos + (bl c).length) i p (by omega)
      have e : pos + (bs (c :: P)).length = pos + (bl c).length + (bs P).length := by rw [bs_cons, List.length_append]; omega
      rw [List.cons_append, lnsF, if_neg hc, e, ih, nl, if_neg hc, ls, if_neg hc]

theorem at_pos (R : List Int) (hR : ∀ c ∈ R, InA c) (k : Nat) (hk : k ≤ R.length) :
    atOf (runesBytes R) R ((bs (R.take k)).length : Int) = ((posOf (R.take k)).1, (posOf (R.take k)).2.1) := by
  have hs := runes_toList R
  have hsz := size_list _ _ hs
  have hle := bs_take_le R k
  unfold atOf
  rw [posOf_eq, show max 0 (min ((bs (R.take k)).length : Int) ((runesBytes R).size : Int)) = ((bs (R.take k)).length : Int) from by omega]
  have := atFrom_at (runesBytes R) (R.take k) (R.drop k) 0 0 0 (0, 0) (Nat.le_refl _)
  rw [List.take_append_drop, Nat.zero_add, Nat.zero_add] at this
  unfold lns
  rw [this]
  obtain ⟨P0, B, T, h1, h2, h3, h4, h5⟩ := line_at R k
  simp only [Prod.mk.injEq, true_and]
  have e2 : (bs (R.take k)).length = (bs P0).length + (bs (la [] (R.take k))).length := by
    conv => lhs; rw [h2]
    rw [bs_append, List.length_append]
  have e3 : (bs (R.take k)).length + (bs (hd (R.drop k))).length = (bs P0).length + (bs (la [] (R.take k) ++ B)).length := by
    rw [e2, bs_append, List.length_append, h3]; omega
  rw [h5, e3]
  have hs2 : R = P0 ++ (la [] (R.take k) ++ B) ++ T := by rw [← List.append_assoc P0]; exact h1
  have he := extract_mid (runesBytes R) P0 (la [] (R.take k) ++ B) T (hs.trans (congrArg bs hs2))
  have hin : ∀ c ∈ la [] (R.take k) ++ B, InA c := fun c hc => hR c (by rw [h1]; simp only [List.mem_append] at hc ⊢; rcases hc with h | h <;> simp [h])
  have := uaFrom_at ((runesBytes R).extract (bs P0).length ((bs P0).length + (bs (la [] (R.take k) ++ B)).length)) (la [] (R.take k)) [] B ((runesBytes R).extract (bs P0).length ((bs P0).length + (bs (la [] (R.take k) ++ B)).length)).size 0 (by rw [he]; rfl) hin (Nat.le_add_left _ _)
  simp only [bs_nil, List.length_nil, us, Nat.zero_add, Int.zero_add] at this
  unfold utfUnitsAt
  rw [← this]
  congr 1
  omega

theorem count_pos (R : List Int) : ((lns R).length : Int) = (posOf R).1 + 1 := by
  rw [posOf_eq]
  unfold lns
  rw [lnsF_count]
  simp

theorem bytes_pos (R : List Int) : (posOf R).2.2 = ((bs R).length : Int) := by rw [posOf_eq]

end Go.Proofs.YtppjpkkkogmhfaaDoor
