/-
  The plain law of names: what the document takes is what the parser takes.
-/
import Derived.Test.YtjamgkcmpcnfpaaGreatDoorRefClean
namespace Go.Proofs.YtjamgkcmpcnfpaaGreatDoor
open Go.RowKit

set_option maxRecDepth 100000 in
theorem plain_odd : ∀ n : Nat, n < 256 → plainB (n : Int) = true → oddB (n : Int) = false := by decide
set_option maxRecDepth 100000 in
theorem plain_atom : ∀ n : Nat, n < 256 → plainB (n : Int) = true → n ≠ 93 → atomB (n : Int) = true := by decide
set_option maxRecDepth 100000 in
theorem plain_q : ∀ n : Nat, n < 256 → plainB (n : Int) = true → qB (n : Int) = true := by decide
theorem plain_ascii (n : Int) (h : plainB n = true) : n < 128 := by simp [plainB] at h; omega

/-- All stretches between '/' hold something; 'p': the byte ahead is '/', or there is none. -/
def okL : Bool → List UInt8 → Prop
  | p, [] => p = false
  | p, c :: r => if c = 47 then p = false ∧ okL true r else okL false r

theorem okL_app : ∀ (a r : List UInt8) (p : Bool), (47 : UInt8) ∉ a → okL p (a ++ 47 :: r) → (p = true → a ≠ []) ∧ okL true r
  | [], r, p, _, h => by
    simp only [List.nil_append, okL, if_pos] at h
    exact ⟨fun e => by simp [e] at h, h.2⟩
  | c :: a, r, p, hn, h => by
    have hc : c ≠ 47 := fun e => hn (by simp [e])
    rw [List.cons_append] at h
    simp only [okL, if_neg hc] at h
    exact ⟨fun _ => by simp, (okL_app a r false (fun e => hn (by simp [e])) h).2⟩

theorem first_of (l : List UInt8) (c : UInt8) (h : c ∈ l) : ∃ a r, l = a ++ c :: r ∧ c ∉ a := by
  induction l with
  | nil => cases h
  | cons b l ih =>
    by_cases e : b = c
    · exact ⟨[], l, by simp [e], by simp⟩
    · obtain ⟨a, r, rfl, hn⟩ := ih (by simpa [Ne.symm e] using h)
      exact ⟨b :: a, r, rfl, by simp [Ne.symm e, hn]⟩

theorem count_filter : ∀ (n : Nat) (l : List UInt8), l.length ≤ n → Lib.count l [47] = (l.filter (· == 47)).length
  | n, l, hn => by
    by_cases h : (47 : UInt8) ∈ l
    · obtain ⟨a, r, rfl, ha⟩ := first_of l 47 h
      cases n with
      | zero => simp at hn
      | succ n =>
        rw [Lib.count_hit (i := a.length) (by simp) (by rw [Lib.index_one]; exact indexByte_here a r 47 ha)]
        rw [show (a ++ 47 :: r).drop (a.length + [(47 : UInt8)].length) = r by simp]
        rw [count_filter n r (by simp at hn; omega)]
        have : a.filter (· == 47) = [] := by rw [List.filter_eq_nil_iff]; intro x hx e; have : x = 47 := by simpa using e
                                             exact ha (this ▸ hx)
        simp [this]; omega
    · rw [Lib.count_miss (by rw [Lib.index_one]; exact indexByte_none l 47 h)]
      have : l.filter (· == 47) = [] := by rw [List.filter_eq_nil_iff]; intro x hx e; have : x = 47 := by simpa using e
                                           exact h (this ▸ hx)
      simp [this]

theorem pieces_full : ∀ (n : Nat) (l : List UInt8), l.length ≤ n → okL true l → ∀ x ∈ Lib.splitK [47] 0 (Lib.count l [47]) l, x ≠ []
  | n, l, hn, ho => by
    by_cases h : (47 : UInt8) ∈ l
    · obtain ⟨a, r, rfl, ha⟩ := first_of l 47 h
      cases n with
      | zero => simp at hn
      | succ n =>
        have hix : Lib.index (a ++ 47 :: r) [47] = a.length := by rw [Lib.index_one]; exact indexByte_here a r 47 ha
        rw [Lib.count_hit (i := a.length) (by simp) hix]
        rw [show (a ++ 47 :: r).drop (a.length + [(47 : UInt8)].length) = r by simp]
        obtain ⟨h1, h2⟩ := okL_app a r true ha ho
        have ih := pieces_full n r (by simp at hn; omega) h2
        rw [Nat.add_comm]
        unfold Lib.splitK
        rw [if_neg (by rw [hix]; simp), hix]
        intro x hx
        simp at hx
        rcases hx with rfl | hx
        · exact h1 rfl
        · exact ih x hx
    · rw [Lib.count_miss (by rw [Lib.index_one]; exact indexByte_none l 47 h)]
      intro x hx
      simp [Lib.splitK] at hx
      subst hx
      rintro rfl
      simp [okL] at ho

/-- The byte ahead is '/', or there is none. -/
def pOf (pre : List UInt8) : Bool := match pre.getLast? with | none => true | some c => c == 47

theorem byteAt_mid (s : ByteArray) (pre : List UInt8) (c : UInt8) (r : List UInt8) (h : s.data.toList = pre ++ c :: r) : byteAt s pre.length = (c.toNat : Int) := by
  rw [byteAt_list s _ h]
  simp [List.getD_eq_getElem?_getD]

theorem okL_of (s : ByteArray) (hs : 1 ≤ s.size) (hsp : ∀ j, j < s.size → spotOk s j) : ∀ (r pre : List UInt8), s.data.toList = pre ++ r → okL (pOf pre) r
  | [], pre, h => by
    rw [List.append_nil] at h
    have hsz : s.size = pre.length := by rw [size_bytes, h]
    rcases List.eq_nil_or_concat pre with rfl | ⟨q, c, rfl⟩
    · rw [List.length_nil] at hsz; omega
    · have hb := byteAt_mid s q c [] (by rw [h]; simp)
      have hq : q.length < s.size := by rw [hsz]; simp
      obtain ⟨_, h2⟩ := hsp q.length hq
      show pOf _ = false
      simp only [pOf, List.concat_eq_append, List.getLast?_append, List.getLast?_singleton, Option.some_or]
      rw [beq_eq_false_iff_ne]
      rintro rfl
      exact (h2 hb).2.1 (by rw [hsz]; simp)
  | c :: r, pre, h => by
    have hsz : pre.length < s.size := by rw [size_bytes, h]; simp
    have hb := byteAt_mid s pre c r h
    obtain ⟨_, h2⟩ := hsp pre.length hsz
    have ih := okL_of s hs hsp r (pre ++ [c]) (by rw [h]; simp)
    have hp : pOf (pre ++ [c]) = (c == 47) := by simp [pOf]
    rw [hp] at ih
    unfold okL
    by_cases hc : c = 47
    · subst hc
      rw [if_pos rfl]
      refine ⟨?_, ih⟩
      obtain ⟨h3, _, h5⟩ := h2 hb
      rcases List.eq_nil_or_concat pre with rfl | ⟨q, d, rfl⟩
      · simp at h3
      · have hd := byteAt_mid s q d (47 :: r) (by rw [h]; simp)
        simp only [pOf, List.concat_eq_append, List.getLast?_append, List.getLast?_singleton, Option.some_or]
        rw [beq_eq_false_iff_ne]
        rintro rfl
        apply h5
        have : (q.concat 47).length - 1 = q.length := by simp
        rw [this, hd]; rfl
    · rw [if_neg hc]
      rwa [show (c == 47) = false by simpa using hc] at ih

theorem at_lt (s : ByteArray) (j : Nat) : ∃ n : Nat, n < 256 ∧ byteAt s j = (n : Int) := ⟨(s.data.toList.getD j 0).toNat, (s.data.toList.getD j 0).toNat_lt, rfl⟩

theorem all_of (s : ByteArray) (T : Int → Bool) (h : ∀ j, j < s.size → T (byteAt s j) = true) : allB T s.data.toList = true := by
  unfold allB
  rw [List.all_eq_true]
  intro x hx
  obtain ⟨j, hj, rfl⟩ := List.getElem_of_mem hx
  have := h j (by rw [size_bytes]; exact hj)
  unfold byteAt at this
  rwa [List.getD_eq_getElem?_getD, List.getElem?_eq_getElem hj] at this

theorem box_ok (s : ByteArray) (h : FormedP s) (hm : ∀ j, j < s.size → byteAt s j ≠ 93) : BoxOk s := by
  obtain ⟨h1, h40, hsp, h3⟩ := h
  have hpl : ∀ j, j < s.size → plainB (byteAt s j) = true := fun j hj => (hsp j hj).1
  have hcf := count_filter _ s.data.toList (Nat.le_refl _)
  have hsl : slashes s s.size = (s.data.toList.filter (· == 47)).length := by unfold slashes; rw [size_bytes, List.take_length]
  have hcB : Lib.countB s ⟨#[47]⟩ = slashes s s.size := by rw [hsl]; exact hcf
  refine ⟨⟨⟨h40, by omega, ?_, ?_, Lib.splitB_all ⟨#[47]⟩ (by decide) 0 _ s rfl⟩, ?_⟩, ?_, ?_, ?_⟩
  · cases hc : Lib.containsS (Lib.splitB ⟨#[47]⟩ 0 (Lib.countB s ⟨#[47]⟩) s) ⟨#[]⟩ with
    | false => rfl
    | true =>
      exfalso
      have hmem := (Lib.containsS_iff _ _).1 hc
      have hmem2 : ([] : List UInt8) ∈ (Lib.splitB ⟨#[47]⟩ 0 (Lib.countB s ⟨#[47]⟩) s).map (·.data.toList) := List.mem_map.2 ⟨_, hmem, rfl⟩
      rw [Lib.splitB_data] at hmem2
      exact pieces_full _ s.data.toList (Nat.le_refl _) (okL_of s h1 hsp s.data.toList [] rfl) [] hmem2 rfl
  · intro j hj
    obtain ⟨n, hn, he⟩ := at_lt s j
    have := hpl j hj
    rw [he] at this ⊢
    exact plain_odd n hn this
  · intro j b hjb
    obtain ⟨hj, rfl⟩ := List.getElem?_eq_some_iff.1 hjb
    have := hpl j (by rw [size_bytes]; exact hj)
    have h2 := plain_ascii _ this
    unfold byteAt at h2
    rw [List.getD_eq_getElem?_getD, List.getElem?_eq_getElem hj, Option.getD_some] at h2
    omega
  · intro e
    rw [size_bytes, e] at h1
    simp at h1
  · refine all_of s _ fun j hj => ?_
    obtain ⟨n, hn, he⟩ := at_lt s j
    have h1 := hpl j hj
    have h2 := hm j hj
    rw [he] at h1 h2 ⊢
    exact plain_atom n hn h1 (by omega)
  · refine all_of s _ fun j hj => ?_
    obtain ⟨n, hn, he⟩ := at_lt s j
    have h1 := hpl j hj
    rw [he] at h1 ⊢
    exact plain_q n hn h1

theorem up_fold (x y : UInt8) (hy : 65 ≤ y.toNat ∧ y.toNat ≤ 90) (h : upB (x.toNat : Int) = (y.toNat : Int)) : Lib.foldEq x y = true := by
  unfold upB at h
  unfold Lib.foldEq
  rw [decide_eq_true_eq]
  split at h <;> omega

theorem fold_up (x y : UInt8) (hy : 65 ≤ y.toNat ∧ y.toNat ≤ 90) (h : Lib.foldEq x y = true) : upB (x.toNat : Int) = (y.toNat : Int) := by
  unfold Lib.foldEq at h
  rw [decide_eq_true_eq] at h
  unfold upB
  split <;> omega

theorem fold_len : ∀ (a b : List UInt8), Lib.equalFold a b = true → a.length = b.length
  | [], [], _ => rfl
  | [], _ :: _, h => by simp [Lib.equalFold] at h
  | _ :: _, [], h => by simp [Lib.equalFold] at h
  | x :: a, y :: b, h => by
    simp only [Lib.equalFold, Bool.and_eq_true] at h
    simp [fold_len a b h.2]

theorem cut_here (a r : List UInt8) (h : (47 : UInt8) ∉ a) : Lib.cut (a ++ 47 :: r) [47] = (a, r, true) := by
  have hix : Lib.index (a ++ 47 :: r) [47] = a.length := by rw [Lib.index_one]; exact indexByte_here a r 47 h
  unfold Lib.cut
  rw [if_pos (by rw [hix]; omega), hix]
  simp

theorem cut_none (a : List UInt8) (h : (47 : UInt8) ∉ a) : Lib.cut a [47] = (a, [], false) := by
  have hix : Lib.index a [47] = -1 := by rw [Lib.index_one]; exact indexByte_none a 47 h
  unfold Lib.cut
  rw [if_neg (by rw [hix]; omega)]

theorem byteAt_at (s : ByteArray) (l : List UInt8) (h : s.data.toList = l) (j : Nat) (hj : j < l.length) : byteAt s j = (l[j].toNat : Int) := by
  rw [byteAt_list s l h, List.getD_eq_getElem?_getD, List.getElem?_eq_getElem hj, Option.getD_some]

theorem inbox_fold (s : ByteArray) (c0 c1 c2 c3 c4 : UInt8) (r : List UInt8) (h : s.data.toList = c0 :: c1 :: c2 :: c3 :: c4 :: r) (hu : ∀ j, j < 5 → upB (byteAt s j) = byteAt inboxL j) :
    Lib.equalFold [c0, c1, c2, c3, c4] [73, 78, 66, 79, 88] = true ∧ (47 : UInt8) ∉ [c0, c1, c2, c3, c4] := by
  have e0 := hu 0 (by omega); have e1 := hu 1 (by omega); have e2 := hu 2 (by omega); have e3 := hu 3 (by omega); have e4 := hu 4 (by omega)
  rw [byteAt_at s _ h 0 (by simp)] at e0
  rw [byteAt_at s _ h 1 (by simp)] at e1
  rw [byteAt_at s _ h 2 (by simp)] at e2
  rw [byteAt_at s _ h 3 (by simp)] at e3
  rw [byteAt_at s _ h 4 (by simp)] at e4
  have f0 := up_fold c0 73 (by decide) e0
  have f1 := up_fold c1 78 (by decide) e1
  have f2 := up_fold c2 66 (by decide) e2
  have f3 := up_fold c3 79 (by decide) e3
  have f4 := up_fold c4 88 (by decide) e4
  refine ⟨by simp [Lib.equalFold, f0, f1, f2, f3, f4], ?_⟩
  intro hm
  simp only [List.mem_cons, List.not_mem_nil, or_false] at hm
  rcases hm with h | h | h | h | h <;> subst h
  · exact absurd f0 (by decide)
  · exact absurd f1 (by decide)
  · exact absurd f2 (by decide)
  · exact absurd f3 (by decide)
  · exact absurd f4 (by decide)

theorem extract_drop (s : ByteArray) (k : Nat) : (s.extract k s.size).data.toList = s.data.toList.drop k := Lib.extract_to_end s k

/-- What the document's 'Clean' gives is what the parser's gives. -/
theorem clean_same (s t : ByteArray) (h : CleanG s t) : t = boxCl s := by
  apply ext_bytes
  show t.data.toList = (cleanL s.data.toList)
  rcases h with ⟨⟨h5, hend, hu⟩, rfl⟩ | ⟨hn, rfl⟩
  · have hl5 : 5 ≤ s.data.toList.length := by rw [← size_bytes]; exact h5
    match hl : s.data.toList, hl5 with
    | c0 :: c1 :: c2 :: c3 :: c4 :: r, _ =>
      obtain ⟨hf, hno⟩ := inbox_fold s c0 c1 c2 c3 c4 r hl hu
      have ht : (inboxL ++ s.extract 5 s.size).data.toList = [73, 78, 66, 79, 88] ++ r := by
        rw [ByteArray.data_append, Array.toList_append, extract_drop, hl]; rfl
      rw [ht]
      rcases hend with he | he
      · have hr : r = [] := by rw [size_bytes, hl] at he; simpa using he
        subst hr
        unfold cleanL
        rw [cut_none _ hno]
        simp [hf]
      · cases r with
        | nil => 
          exfalso
          rw [byteAt_list s _ hl] at he
          simp at he
        | cons d r =>
          rw [byteAt_at s _ hl 5 (by simp)] at he
          have hd : d = 47 := by apply UInt8.toNat_inj.1; show d.toNat = 47; simp at he; omega
          subst hd
          have hc := cut_here [c0, c1, c2, c3, c4] r hno
          simp only [List.cons_append, List.nil_append] at hc
          unfold cleanL
          rw [hc]
          simp [hf]
  · have hcut : ∃ a b m, Lib.cut t.data.toList [47] = (a, b, m) ∧ t.data.toList = a ++ (if m = true then 47 :: b else []) := by
      by_cases hm : (47 : UInt8) ∈ t.data.toList
      · obtain ⟨a, r, e, ha⟩ := first_of _ _ hm
        exact ⟨a, r, true, by rw [e]; exact cut_here a r ha, by simpa using e⟩
      · exact ⟨t.data.toList, [], false, cut_none _ hm, by simp⟩
    obtain ⟨a, b, m, hc, hl⟩ := hcut
    unfold cleanL
    rw [hc]
    simp only
    cases hf : Lib.equalFold a [73, 78, 66, 79, 88] with
    | false => simpa using hl
    | true =>
      exfalso
      have hlen := fold_len _ _ hf
      match a, hlen with
      | [c0, c1, c2, c3, c4], _ =>
        simp only [Lib.equalFold, Bool.and_eq_true, and_true] at hf
        obtain ⟨f0, f1, f2, f3, f4⟩ := hf
        have hl' : t.data.toList = c0 :: c1 :: c2 :: c3 :: c4 :: (if m = true then 47 :: b else []) := by simpa using hl
        apply hn
        refine ⟨by rw [size_bytes, hl']; simp, ?_, ?_⟩
        · cases m with
          | true => right; rw [byteAt_at t _ hl' 5 (by simp)]; simp
          | false => left; rw [size_bytes, hl']; simp
        · intro j hj
          have hjc : j = 0 ∨ j = 1 ∨ j = 2 ∨ j = 3 ∨ j = 4 := by omega
          rcases hjc with rfl | rfl | rfl | rfl | rfl
          · rw [byteAt_at t _ hl' 0 (by simp)]; exact fold_up c0 73 (by decide) f0
          · rw [byteAt_at t _ hl' 1 (by simp)]; exact fold_up c1 78 (by decide) f1
          · rw [byteAt_at t _ hl' 2 (by simp)]; exact fold_up c2 66 (by decide) f2
          · rw [byteAt_at t _ hl' 3 (by simp)]; exact fold_up c3 79 (by decide) f3
          · rw [byteAt_at t _ hl' 4 (by simp)]; exact fold_up c4 88 (by decide) f4

set_option maxRecDepth 100000 in
theorem word_atom : ∀ n : Nat, n < 256 → wordB (n : Int) = true → (atomOr [93] (n : Int) && (n != 43)) = true := by decide

theorem tag_ok (s : ByteArray) (h : 1 ≤ s.size ∧ s.size ≤ 40 ∧ ∀ j, j < s.size → wordB (byteAt s j) = true) : TagOk s.data.toList := by
  obtain ⟨h1, h40, hw⟩ := h
  refine ⟨?_, ?_, by rw [← size_bytes]; exact h40, ?_⟩
  · intro e
    rw [size_bytes, e] at h1
    simp at h1
  · refine all_of s _ fun j hj => ?_
    obtain ⟨n, hn, he⟩ := at_lt s j
    have := hw j hj
    rw [he] at this ⊢
    have h2 := word_atom n hn this
    rw [Bool.and_eq_true] at h2
    exact h2.1
  · rw [indexByte_none]
    · decide
    · intro hm
      obtain ⟨j, hj, e⟩ := List.getElem_of_mem hm
      have := hw j (by rw [size_bytes]; exact hj)
      rw [byteAt_at s _ rfl j hj, e] at this
      exact absurd this (by decide)

end Go.Proofs.YtjamgkcmpcnfpaaGreatDoor
