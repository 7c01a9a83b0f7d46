/-
  The parser's 'literal' and 'str'.
-/
import Derived.Test.YtjamgkcmpcnfpaaGreatDoorQuoted
import Derived.Test.YtjamgkcmpcnfpaaGreatDoorEats
import Derived.RegionTactic
import Derived.ChangeAlike
namespace Go.Proofs.YtjamgkcmpcnfpaaGreatDoor
open Go.RowKit

set_option maxHeartbeats 2000000 in
set_option maxRecDepth 100000 in
theorem literal_any (g : Nat) (t s0 s1 : ByteArray) (rb ro n c : Nat) (kv : Value) (w : World) (hA : At g w t (.slice (some ⟨rb, ro, none⟩) n c) kv) (ht : t.toList.isEmpty = true) (hn : 2 ≤ n) (hc : n ≤ c) (hmax : c ≤ 9223372036854775807)
    (hr0 : w.cell? ⟨rb, ro, none⟩ = some (.string s0)) (hr1 : w.cell? ⟨rb, ro + 1, none⟩ = some (.string s1)) (hne : rb ≠ g) :
    Calls Tryz.prog 110 #[PP g] w fun e w' => e = .returned (.string s0) ∧ (∃ a', At g w' s1 (.slice a' (n - 2) (c - 2)) kv) ∧ Kept g w w' := by
  have h0 := hA.c0
  have h1 := hA.c1
  have h0f := hA.f0
  have h1f := hA.f1
  have hn' : decide ((2 : Int) ≤ (n : Int)) = true := by simp; omega
  go_enter Tryz.func110, Tryz.ntmps110
  go_wp2_with fail
  refine (must_yes _).mono ?_
  rintro e w1 ⟨rfl, rfl⟩
  go_wp2_with fail
  go_region
  go_wp2_with fail
  all_goals
    go_ret
    refine ⟨rfl, ⟨_, ((hA.set0 s1).set1 _).drew⟩, (((Kept.refl _ _).setg 0 _).setg 1 _).drew⟩

theorem empty_list (t : ByteArray) (h : t.data.toList = []) : t.toList.isEmpty = true := by rw [ByteArray.toList_eq, h]; rfl
theorem nonempty_list (t : ByteArray) (h : t.data.toList ≠ []) : t.toList.isEmpty = false := by
  rw [ByteArray.toList_eq]
  cases hl : t.data.toList with
  | nil => exact absurd hl h
  | cons => rfl

/-- A quoted string. -/
theorem str_quoted (g : Nat) (t more : ByteArray) (body rest : List UInt8) (rv kv : Value) (w : World) (hA : At g w t rv kv) (ht : t.data.toList = 34 :: (body ++ 34 :: rest)) (hs : t.size ≤ 140737488355328)
    (hq : allB qB body = true) :
    Calls Tryz.prog 82 #[PP g, .string more] w fun e w' => e = .returned (.string ⟨body.toArray⟩) ∧ At g w' ⟨rest.toArray⟩ rv kv ∧ Kept g w w' := by
  have hm := may_has g t ⟨#[34]⟩ (body ++ 34 :: rest) rv kv w hA (by rw [ht]; rfl)
  have hsz : (⟨(body ++ 34 :: rest).toArray⟩ : ByteArray).size ≤ 140737488355328 := by rw [size_bytes, ht] at hs; rw [size_bytes]; simp at hs ⊢; omega
  have Hm := Lib.hid hm; clear hm
  have Hs := Lib.hid hsz; clear hsz
  have Hq := Lib.hid hq; clear hq
  clear ht hs hA
  go_enter Tryz.func82, Tryz.ntmps82
  go_wp2_with fail
  refine Hm.out.mono ?_
  rintro e w1 ⟨rfl, hA1, hK1⟩
  go_wp2_with fail
  refine (quoted_any g _ body rest rv kv _ hA1 (by simp) Hs.out Hq.out).mono ?_
  rintro e w2 ⟨rfl, hA2, hK2⟩
  go_wp2_with fail
  go_ret
  exact ⟨rfl, hA2, hK1.trans hK2⟩

/-- A literal. -/
theorem str_literal (g : Nat) (t more s0 s1 : ByteArray) (rb ro n c : Nat) (kv : Value) (w : World) (hA : At g w t (.slice (some ⟨rb, ro, none⟩) n c) kv) (ht : t.data.toList = []) (hn : 2 ≤ n) (hc : n ≤ c) (hmax : c ≤ 9223372036854775807)
    (hr0 : w.cell? ⟨rb, ro, none⟩ = some (.string s0)) (hr1 : w.cell? ⟨rb, ro + 1, none⟩ = some (.string s1)) (hne : rb ≠ g) :
    Calls Tryz.prog 82 #[PP g, .string more] w fun e w' => e = .returned (.string s0) ∧ (∃ a', At g w' s1 (.slice a' (n - 2) (c - 2)) kv) ∧ Kept g w w' := by
  have hm := may_not g t ⟨#[34]⟩ _ kv w hA (by rw [ht]; rfl)
  have hlt := World.block_lt_of_cell? _ _ hr0
  have he := empty_list t ht
  have hn' : decide ((2 : Int) ≤ (n : Int)) = true := by simp; omega
  have Hm := Lib.hid hm; clear hm
  clear hA ht
  go_enter Tryz.func82, Tryz.ntmps82
  go_wp2_with fail
  refine Hm.out.mono ?_
  rintro e w1 ⟨rfl, hA1, hK1⟩
  have h0 := hA1.c0
  have h1 := hA1.c1
  have hl := literal_any g t s0 s1 rb ro n c kv w1 hA1 he hn hc hmax ((hK1.cell (p := ⟨rb, ro, none⟩) hlt hne).trans hr0) ((hK1.cell (p := ⟨rb, ro + 1, none⟩) hlt hne).trans hr1) hne
  have Hl := Lib.hid hl; clear hl hr0 hr1 hA1
  go_wp2_with fail
  refine Hl.out.mono ?_
  rintro e w2 ⟨rfl, hA2, hK2⟩
  go_wp2_with fail
  go_ret
  exact ⟨rfl, hA2, hK1.trans hK2⟩

/-- An atom. -/
theorem str_atom (g : Nat) (t more : ByteArray) (a b : List UInt8) (r : Option Addr) (n c : Nat) (kv : Value) (w : World) (hA : At g w t (.slice r n c) kv) (ht : t.data.toList = a ++ b) (hs : t.size ≤ 9223372036854775807) (hpos : a ≠ [])
    (ha : allB (atomOr more.data.toList) a = true) (hb : stopB (atomOr more.data.toList) b = true) (hq : atomOr more.data.toList 34 = false) :
    Calls Tryz.prog 82 #[PP g, .string more] w fun e w' => e = .returned (.string ⟨a.toArray⟩) ∧ At g w' ⟨b.toArray⟩ (.slice r n c) kv ∧ Kept g w w' := by
  have hnp : Lib.hasPrefix t.data.toList [34] = false := by
    rw [ht]
    cases a with
    | nil => exact absurd rfl hpos
    | cons x a =>
      by_cases e : x = 34
      · subst e; simp [allB] at ha; rw [hq] at ha; exact absurd ha.1 (by decide)
      · simp [Lib.hasPrefix, List.isPrefixOf, Ne.symm e]
  have hm := may_not g t ⟨#[34]⟩ _ kv w hA hnp
  have he : t.toList.isEmpty = false := nonempty_list t (by rw [ht]; intro h; exact hpos (List.append_eq_nil_iff.1 h).1)
  have Hm := Lib.hid hm; clear hm
  have Ht := Lib.hid ht
  have Ha := Lib.hid ha
  have Hb := Lib.hid hb
  clear hA ht ha hb hnp hq
  go_enter Tryz.func82, Tryz.ntmps82
  go_wp2_with fail
  refine Hm.out.mono ?_
  rintro e w1 ⟨rfl, hA1, hK1⟩
  have h0 := hA1.c0
  go_wp2_with fail
  refine (atom_any g t more a b _ kv w1 hA1 Ht.out hs hpos Ha.out Hb.out).mono ?_
  rintro e w2 ⟨rfl, hA2, hK2⟩
  go_wp2_with fail
  go_ret
  exact ⟨rfl, hA2, hK1.trans hK2⟩

end Go.Proofs.YtjamgkcmpcnfpaaGreatDoor
