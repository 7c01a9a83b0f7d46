/-
  The plain law of sets: what the document prints is what the parser reads.
-/
import Derived.Test.YtjamgkcmpcnfpaaGreatDoorPrint
import Derived.Test.YtjamgkcmpcnfpaaGreatDoorNameLaw
namespace Go.Proofs.YtjamgkcmpcnfpaaGreatDoor
open Go.RowKit

theorem parse_step (M acc : Nat) (c : UInt8) (r : List UInt8) : Lib.parseUintM M acc (c :: r) = (if 48 ≤ c.toNat ∧ c.toNat ≤ 57 then
      if 1844674407370955162 ≤ acc then .range else if M < acc * 10 + (c.toNat - 48) then .range else Lib.parseUintM M (acc * 10 + (c.toNat - 48)) r
    else Lib.parseUintM M 0 [0]) := rfl

theorem parse_app_ok (M : Nat) (r : List UInt8) : ∀ (l : List UInt8) (acc u : Nat), Lib.parseUintM M acc l = .ok u → Lib.parseUintM M acc (l ++ r) = Lib.parseUintM M u r
  | [], acc, u, h => by
    simp only [Lib.parseUintM, Lib.NumEnd.ok.injEq] at h
    subst h
    rfl
  | c :: l, acc, u, h => by
    rw [List.cons_append, parse_step]
    rw [parse_step] at h
    split at h
    · rename_i h1
      rw [if_pos h1]
      split at h
      · cases h
      · rename_i h2
        rw [if_neg h2]
        split at h
        · cases h
        · rename_i h3
          rw [if_neg h3]
          exact parse_app_ok M r l _ _ h
    · cases h

theorem digit_nat (d : Nat) (h : d < 10) : (UInt8.ofNat (48 + d)).toNat = 48 + d := by
  rw [UInt8.toNat_ofNat']
  omega

theorem parse_one_digit (M acc d : Nat) (hd : d < 10) (h1 : acc * 10 + d ≤ M) (h2 : M ≤ 4294967295) : Lib.parseUintM M acc [UInt8.ofNat (48 + d)] = .ok (acc * 10 + d) := by
  unfold Lib.parseUintM
  rw [digit_nat d hd, if_pos ⟨by omega, by omega⟩, if_neg (by omega), if_neg (by omega)]
  rw [show acc * 10 + (48 + d - 48) = acc * 10 + d by omega]
  rfl

theorem parse_dec (M : Nat) (hM : M ≤ 4294967295) : ∀ (N n : Nat), n < N → n ≤ M → Lib.parseUintM M 0 (decL n) = .ok n
  | 0, _, h, _ => by omega
  | N + 1, n, h, hn => by
    by_cases h10 : n < 10
    · rw [decL_one n h10, parse_one_digit M 0 n h10 (by omega) hM]
      simp
    · rw [decL_more n h10, parse_app_ok M _ _ _ _ (parse_dec M hM N (n / 10) (by omega) (by omega)), parse_one_digit M _ (n % 10) (by omega) (by omega) hM]
      congr 1
      omega

/-- All that a number's text has are digits. -/
theorem dec_digits : ∀ (N n : Nat), n < N → ∀ x ∈ decL n, 48 ≤ x.toNat ∧ x.toNat ≤ 57
  | 0, _, h => by omega
  | N + 1, n, h => by
    intro x hx
    by_cases h10 : n < 10
    · rw [decL_one n h10] at hx
      rw [List.mem_singleton] at hx
      rw [hx, digit_nat n h10]
      omega
    · rw [decL_more n h10] at hx
      rw [List.mem_append, List.mem_singleton] at hx
      rcases hx with hx | hx
      · exact dec_digits N (n / 10) (by omega) x hx
      · rw [hx, digit_nat _ (by omega)]
        omega

theorem dec_short : ∀ (k n : Nat), n < 10 ^ (k + 1) → (decL n).length ≤ k + 1
  | 0, n, h => by rw [decL_one n (by simpa using h)]; simp
  | k + 1, n, h => by
    by_cases h10 : n < 10
    · rw [decL_one n h10]; simp
    · rw [decL_more n h10]
      have := dec_short k (n / 10) (by rw [Nat.pow_succ] at h; omega)
      simp
      omega

theorem dec_head : ∀ (N n : Nat), n < N → 0 < n → ∃ d r, decL n = d :: r ∧ d.toNat ≠ 48
  | 0, _, h, _ => by omega
  | N + 1, n, h, h0 => by
    by_cases h10 : n < 10
    · rw [decL_one n h10]
      exact ⟨_, [], rfl, by rw [digit_nat n h10]; omega⟩
    · obtain ⟨d, r, e, hd⟩ := dec_head N (n / 10) (by omega) (by omega)
      rw [decL_more n h10, e]
      exact ⟨d, _, rfl, hd⟩

theorem num_ok (a : Nat) (h : a ≤ 4294967295) : NumOk (endL a) a := by
  unfold endL
  by_cases h0 : a = 0
  · rw [if_pos h0]; exact .inl ⟨rfl, h0⟩
  · rw [if_neg h0]
    obtain ⟨d, r, e, hd⟩ := dec_head _ a (Nat.lt_succ_self _) (by omega)
    have hdg := dec_digits _ a (Nat.lt_succ_self _)
    have hd2 := hdg d (by rw [e]; simp)
    refine .inr ⟨?_, ?_, by omega, by omega, ?_, decL_ne a, ?_, ?_⟩
    · intro e2
      have := hdg 42 (by rw [e2]; simp)
      exact absurd this.1 (by decide)
    · unfold Lib.parseUintB
      rw [if_neg (decL_ne a)]
      exact parse_dec _ (by decide) _ a (Nat.lt_succ_self _) (by omega)
    · have := dec_short 9 a (by omega)
      omega
    · rw [e]
      intro e2
      simp at e2
      subst e2
      exact hd rfl
    · rw [e]
      intro e2
      simp at e2
      subst e2
      exact absurd hd2.1 (by decide)

/-- What a text of an end has. -/
theorem end_signs (a : Nat) : ∀ x ∈ endL a, x = 42 ∨ (48 ≤ x.toNat ∧ x.toNat ≤ 57) := by
  intro x hx
  unfold endL at hx
  split at hx
  · simp at hx; exact .inl hx
  · exact .inr (dec_digits _ a (Nat.lt_succ_self _) x hx)

theorem end_no (a : Nat) (c : UInt8) (hc : c ≠ 42) (h : c.toNat < 48 ∨ 57 < c.toNat) : c ∉ endL a := by
  intro hm
  rcases end_signs a c hm with e | e
  · exact hc e
  · omega

theorem cut_at (c : UInt8) (a r : List UInt8) (h : c ∉ a) : Lib.cut (a ++ c :: r) [c] = (a, r, true) := by
  have hix : Lib.index (a ++ c :: r) [c] = a.length := by rw [Lib.index_one]; exact indexByte_here a r c h
  unfold Lib.cut
  rw [if_pos (by rw [hix]; omega), hix]
  simp

theorem cut_no (c : UInt8) (a : List UInt8) (h : c ∉ a) : Lib.cut a [c] = (a, [], false) := by
  have hix : Lib.index a [c] = -1 := by rw [Lib.index_one]; exact indexByte_none a c h
  unfold Lib.cut
  rw [if_neg (by rw [hix]; omega)]

theorem part_ok (a b : Nat) (ha : a ≤ 4294967295) (hb : b ≤ 4294967295) (hl : (partL (a, b)).length ≤ 2000) : PartOk (partL (a, b)) a b := by
  have hno : (58 : UInt8) ∉ endL a := end_no a 58 (by decide) (.inr (by decide))
  by_cases e : b = a
  · subst e
    refine ⟨endL b, [], false, ?_, num_ok b hb, by simpa using num_ok b hb, by simp, hl⟩
    unfold partL
    simp only [if_true, List.append_nil]
    exact cut_no 58 _ hno
  · refine ⟨endL a, endL b, true, ?_, num_ok a ha, by simpa using num_ok b hb, fun _ h => e h.symm, hl⟩
    unfold partL
    simp only [if_neg e]
    exact cut_at 58 _ _ hno

theorem join_len (c : UInt8) : ∀ (l : List (List UInt8)) (x : List UInt8), x ∈ l → x.length ≤ (joinC c l).length
  | [], _, h => by cases h
  | [s], x, h => by simp at h; subst h; exact Nat.le_refl _
  | s :: t :: r, x, h => by
    rw [joinC_cons]
    rcases List.mem_cons.1 h with rfl | h
    · simp
    · have := join_len c (t :: r) x h
      simp
      omega

theorem join_all (c : UInt8) (p : UInt8 → Prop) (hc : p c) : ∀ (l : List (List UInt8)), (∀ x ∈ l, ∀ y ∈ x, p y) → ∀ y ∈ joinC c l, p y
  | [], _, y, h => by cases h
  | [s], h, y, hy => h s (by simp) y hy
  | s :: t :: r, h, y, hy => by
    rw [joinC_cons] at hy
    rcases List.mem_append.1 hy with hy | hy
    · exact h s (by simp) y hy
    · rcases List.mem_cons.1 hy with rfl | hy
      · exact hc
      · exact join_all c p hc (t :: r) (fun x hx => h x (by simp [List.mem_cons.1 hx])) y hy

theorem part_signs (p : Nat × Nat) : ∀ x ∈ partL p, x = 42 ∨ x = 58 ∨ (48 ≤ x.toNat ∧ x.toNat ≤ 57) := by
  intro x hx
  unfold partL at hx
  rcases List.mem_append.1 hx with hx | hx
  · rcases end_signs _ x hx with e | e
    · exact .inl e
    · exact .inr (.inr e)
  · split at hx
    · cases hx
    · rcases List.mem_cons.1 hx with rfl | hx
      · exact .inr (.inl rfl)
      · rcases end_signs _ x hx with e | e
        · exact .inl e
        · exact .inr (.inr e)

set_option maxRecDepth 100000 in
theorem sign_atom : ∀ n : Nat, n < 256 → (n = 42 ∨ n = 58 ∨ n = 44 ∨ (48 ≤ n ∧ n ≤ 57)) → atomOr [42] (n : Int) = true := by decide

theorem set_law (n : Nat) (ps : List (Int × Int)) (h : RightP n ps) (hl : (textL n ps n).length ≤ 300) : SetOk (textL n ps n) (rsOf n ps) ∧ textL n ps n ≠ [] ∧ allB (atomOr [42]) (textL n ps n) = true := by
  obtain ⟨h1, h60, hin⟩ := h
  have htk : (rsOf n ps).take n = rsOf n ps := List.take_of_length_le (by rw [rsOf_length]; exact Nat.le_refl _)
  have htx : textL n ps n = joinC 44 ((rsOf n ps).map partL) := by unfold textL; rw [htk]
  have hpl : ((rsOf n ps).map partL).length = n := by simp [rsOf_length]
  have hne : (rsOf n ps).map partL ≠ [] := by intro e; rw [e] at hpl; simp at hpl; omega
  have hsg : ∀ y ∈ textL n ps n, y = 42 ∨ y = 58 ∨ y = 44 ∨ (48 ≤ y.toNat ∧ y.toNat ≤ 57) := by
    rw [htx]
    refine join_all 44 _ (by decide) _ fun x hx y hy => ?_
    obtain ⟨p, _, rfl⟩ := List.mem_map.1 hx
    rcases part_signs p y hy with e | e | e
    · exact .inl e
    · exact .inr (.inl e)
    · exact .inr (.inr (.inr e))
  refine ⟨⟨by omega, by rw [rsOf_length]; exact h60, (rsOf n ps).map partL, htx, hne, ?_, by simp, ?_⟩, ?_, ?_⟩
  · intro x hx hm
    obtain ⟨p, _, rfl⟩ := List.mem_map.1 hx
    rcases part_signs p 44 hm with e | e | e
    · exact absurd e (by decide)
    · exact absurd e (by decide)
    · exact absurd e.1 (by decide)
  · intro i hi
    have hi' : i < n := by rw [hpl] at hi; exact hi
    have hat : (rsOf n ps)[i]'(by rw [rsOf_length]; exact hi') = ((ps.getD i (0, 0)).1.toNat, (ps.getD i (0, 0)).2.toNat) := by simp [rsOf]
    have hmem : ((rsOf n ps).map partL)[i] ∈ (rsOf n ps).map partL := List.getElem_mem hi
    have hlen := join_len 44 _ _ hmem
    rw [← htx] at hlen
    rw [List.getElem_map, hat] at hlen ⊢
    obtain ⟨⟨a1, a2⟩, b1, b2⟩ := hin i hi'
    exact part_ok _ _ (by omega) (by omega) (by omega)
  · intro e
    have hx : ((rsOf n ps).map partL)[0]'(by omega) ∈ (rsOf n ps).map partL := List.getElem_mem _
    have hlen := join_len 44 _ _ hx
    rw [← htx, e, List.getElem_map] at hlen
    unfold partL endL at hlen
    have := decL_ne ((rsOf n ps)[0]'(by rw [rsOf_length]; omega)).1
    simp only [List.length_nil, List.length_append] at hlen
    split at hlen
    · simp at hlen
    · have h0 : (decL ((rsOf n ps)[0]'(by rw [rsOf_length]; omega)).1).length = 0 := by omega
      exact this (List.length_eq_zero_iff.1 h0)
  · unfold allB
    rw [List.all_eq_true]
    intro x hx
    refine sign_atom x.toNat x.toNat_lt ?_
    rcases hsg x hx with e | e | e | e
    · subst e; decide
    · subst e; decide
    · subst e; decide
    · exact .inr (.inr (.inr e))

end Go.Proofs.YtjamgkcmpcnfpaaGreatDoor
