/-
  The parser's 'literal' and 'str'.
  The parser's 'box', at names that are taken: an atom, quoted, a literal.
  The parser's 'takes': a box alone; a set and a box.
  The parser's 'command', at a plain name.
-/
import Derived.Test.YtjamgkcmpcnfpaaGreatDoorS04
import Derived.Test.YtjamgkcmpcnfpaaGreatDoorS03
import Derived.RegionTactic
import Derived.ChangeAlike
import Derived.Laws.Rows
import Derived.Laws.Tables
import Derived.Laws.CopyRow
set_option linter.unusedVariables false
set_option linter.unusedSimpArgs false

namespace Go.Proofs.YtjamgkcmpcnfpaaGreatDoor
open Go.RowKit

set_option maxHeartbeats 2000000 in
set_option maxRecDepth 100000 in
theorem literal_any (g : Nat) (t s0 s1 : ByteArray) (rb ro n c : Nat) (kv : Value) (w : World) (hA : At g w t (.slice (some ⟨rb, ro, none⟩) n c) kv) (ht : t.toList.isEmpty = true) (hn : 2 ≤ n) (hc : n ≤ c) (hmax : c ≤ 9223372036854775807)
    (hr0 : w.cell? ⟨rb, ro, none⟩ = some (.string s0)) (hr1 : w.cell? ⟨rb, ro + 1, none⟩ = some (.string s1)) (hne : rb ≠ g) :
    Calls Tryz.prog 110 #[PP g] w fun e w' => e = .returned (.string s0) ∧ (∃ a', At g w' s1 (.slice a' (n - 2) (c - 2)) kv) ∧ Kept g w w' := by
  have h0 := hA.c0
  have h1 := hA.c1
  have h0f := hA.f0
  have h1f := hA.f1
  have hn' : decide ((2 : Int) ≤ (n : Int)) = true := by simp; omega
  go_enter Tryz.func110, Tryz.ntmps110
  go_wp2_with fail
  refine (must_yes _).mono ?_
  rintro e w1 ⟨rfl, rfl⟩
  go_wp2_with fail
  go_region
  go_wp2_with fail
  all_goals
    go_ret
    refine ⟨rfl, ⟨_, ((hA.set0 s1).set1 _).drew⟩, (((Kept.refl _ _).setg 0 _).setg 1 _).drew⟩

theorem empty_list (t : ByteArray) (h : t.data.toList = []) : t.toList.isEmpty = true := by rw [ByteArray.toList_eq, h]; rfl
theorem nonempty_list (t : ByteArray) (h : t.data.toList ≠ []) : t.toList.isEmpty = false := by
  rw [ByteArray.toList_eq]
  cases hl : t.data.toList with
  | nil => exact absurd hl h
  | cons => rfl

/-- A quoted string. -/
theorem str_quoted (g : Nat) (t more : ByteArray) (body rest : List UInt8) (rv kv : Value) (w : World) (hA : At g w t rv kv) (ht : t.data.toList = 34 :: (body ++ 34 :: rest)) (hs : t.size ≤ 140737488355328)
    (hq : allB qB body = true) :
    Calls Tryz.prog 82 #[PP g, .string more] w fun e w' => e = .returned (.string ⟨body.toArray⟩) ∧ At g w' ⟨rest.toArray⟩ rv kv ∧ Kept g w w' := by
  have hm := may_has g t ⟨#[34]⟩ (body ++ 34 :: rest) rv kv w hA (by rw [ht]; rfl)
  have hsz : (⟨(body ++ 34 :: rest).toArray⟩ : ByteArray).size ≤ 140737488355328 := by rw [size_bytes, ht] at hs; rw [size_bytes]; simp at hs ⊢; omega
  have Hm := Lib.hid hm; clear hm
  have Hs := Lib.hid hsz; clear hsz
  have Hq := Lib.hid hq; clear hq
  clear ht hs hA
  go_enter Tryz.func82, Tryz.ntmps82
  go_wp2_with fail
  refine Hm.out.mono ?_
  rintro e w1 ⟨rfl, hA1, hK1⟩
  go_wp2_with fail
  refine (quoted_any g _ body rest rv kv _ hA1 (by simp) Hs.out Hq.out).mono ?_
  rintro e w2 ⟨rfl, hA2, hK2⟩
  go_wp2_with fail
  go_ret
  exact ⟨rfl, hA2, hK1.trans hK2⟩

/-- A literal. -/
theorem str_literal (g : Nat) (t more s0 s1 : ByteArray) (rb ro n c : Nat) (kv : Value) (w : World) (hA : At g w t (.slice (some ⟨rb, ro, none⟩) n c) kv) (ht : t.data.toList = []) (hn : 2 ≤ n) (hc : n ≤ c) (hmax : c ≤ 9223372036854775807)
    (hr0 : w.cell? ⟨rb, ro, none⟩ = some (.string s0)) (hr1 : w.cell? ⟨rb, ro + 1, none⟩ = some (.string s1)) (hne : rb ≠ g) :
    Calls Tryz.prog 82 #[PP g, .string more] w fun e w' => e = .returned (.string s0) ∧ (∃ a', At g w' s1 (.slice a' (n - 2) (c - 2)) kv) ∧ Kept g w w' := by
  have hm := may_not g t ⟨#[34]⟩ _ kv w hA (by rw [ht]; rfl)
  have hlt := World.block_lt_of_cell? _ _ hr0
  have he := empty_list t ht
  have hn' : decide ((2 : Int) ≤ (n : Int)) = true := by simp; omega
  have Hm := Lib.hid hm; clear hm
  clear hA ht
  go_enter Tryz.func82, Tryz.ntmps82
  go_wp2_with fail
  refine Hm.out.mono ?_
  rintro e w1 ⟨rfl, hA1, hK1⟩
  have h0 := hA1.c0
  have h1 := hA1.c1
  have hl := literal_any g t s0 s1 rb ro n c kv w1 hA1 he hn hc hmax ((hK1.cell (p := ⟨rb, ro, none⟩) hlt hne).trans hr0) ((hK1.cell (p := ⟨rb, ro + 1, none⟩) hlt hne).trans hr1) hne
  have Hl := Lib.hid hl; clear hl hr0 hr1 hA1
  go_wp2_with fail
  refine Hl.out.mono ?_
  rintro e w2 ⟨rfl, hA2, hK2⟩
  go_wp2_with fail
  go_ret
  exact ⟨rfl, hA2, hK1.trans hK2⟩

/-- An atom. -/
theorem str_atom (g : Nat) (t more : ByteArray) (a b : List UInt8) (r : Option Addr) (n c : Nat) (kv : Value) (w : World) (hA : At g w t (.slice r n c) kv) (ht : t.data.toList = a ++ b) (hs : t.size ≤ 9223372036854775807) (hpos : a ≠ [])
    (ha : allB (atomOr more.data.toList) a = true) (hb : stopB (atomOr more.data.toList) b = true) (hq : atomOr more.data.toList 34 = false) :
    Calls Tryz.prog 82 #[PP g, .string more] w fun e w' => e = .returned (.string ⟨a.toArray⟩) ∧ At g w' ⟨b.toArray⟩ (.slice r n c) kv ∧ Kept g w w' := by
  have hnp : Lib.hasPrefix t.data.toList [34] = false := by
    rw [ht]
    cases a with
    | nil => exact absurd rfl hpos
    | cons x a =>
      by_cases e : x = 34
      · subst e; simp [allB] at ha; rw [hq] at ha; exact absurd ha.1 (by decide)
      · simp [Lib.hasPrefix, List.isPrefixOf, Ne.symm e]
  have hm := may_not g t ⟨#[34]⟩ _ kv w hA hnp
  have he : t.toList.isEmpty = false := nonempty_list t (by rw [ht]; intro h; exact hpos (List.append_eq_nil_iff.1 h).1)
  have Hm := Lib.hid hm; clear hm
  have Ht := Lib.hid ht
  have Ha := Lib.hid ha
  have Hb := Lib.hid hb
  clear hA ht ha hb hnp hq
  go_enter Tryz.func82, Tryz.ntmps82
  go_wp2_with fail
  refine Hm.out.mono ?_
  rintro e w1 ⟨rfl, hA1, hK1⟩
  have h0 := hA1.c0
  go_wp2_with fail
  refine (atom_any g t more a b _ kv w1 hA1 Ht.out hs hpos Ha.out Hb.out).mono ?_
  rintro e w2 ⟨rfl, hA2, hK2⟩
  go_wp2_with fail
  go_ret
  exact ⟨rfl, hA2, hK1.trans hK2⟩

end Go.Proofs.YtjamgkcmpcnfpaaGreatDoor

namespace Go.Proofs.YtjamgkcmpcnfpaaGreatDoor
open Go.RowKit

/-- A name that is taken. -/
structure NameOk (s : ByteArray) : Prop where
  formed : Formed s
  ascii : ∀ (j : Nat) (b : UInt8), s.data.toList[j]? = some b → b.toNat < 128

set_option maxHeartbeats 1000000 in
theorem box_of (g : Nat) (s : ByteArray) (m : Int) (w : World) (Q : World → Prop) (hS : Calls Tryz.prog 82 #[PP g, .string ⟨#[]⟩] w fun e w' => e = .returned (.string s) ∧ Q w') (hQ : ∀ w', Q w' → Kept g w w')
    (hM : w.cell? ⟨4, 0, none⟩ = some (.int .i64 m)) (hg : 4 ≠ g) (h : NameOk s) :
    Calls Tryz.prog 81 #[PP g] w fun e w' => e = .returned (.string ⟨(cleanL s.data.toList).toArray⟩) ∧ ∃ w1, Q w1 ∧ Below w1.heap.size w1 w' := by
  have h4 : 4 < w.heap.size := World.block_lt_of_cell? _ _ hM
  have hC := fun (w1 : World) (hk : Kept g w w1) => Clean_yes s m w1 ((hk.cell (p := ⟨4, 0, none⟩) h4 hg).trans hM) (Nat.lt_of_lt_of_le h4 hk.size) h.formed h.ascii
  have HS := Lib.hid hS; clear hS
  have HC := Lib.hid hC; clear hC
  have HQ := Lib.hid hQ; clear hQ
  clear hM h
  go_enter Tryz.func81, Tryz.ntmps81
  go_wp2_with fail
  refine HS.out.mono ?_
  rintro e w1 ⟨rfl, hq⟩
  go_wp2_with fail
  refine (HC.out w1 (HQ.out w1 hq)).mono ?_
  rintro e w2 ⟨rfl, hB⟩
  go_wp2_with fail
  refine (must_yes _).mono ?_
  rintro e w3 ⟨rfl, rfl⟩
  go_wp2_with fail
  go_ret
  exact ⟨rfl, w1, hq, hB⟩

end Go.Proofs.YtjamgkcmpcnfpaaGreatDoor

namespace Go.Proofs.YtjamgkcmpcnfpaaGreatDoor
open Go.RowKit

/-- The line is over. -/
def Done (g : Nat) (kv : Value) (w : World) : Prop := ∃ a c, At g w ⟨#[]⟩ (.slice a 0 c) kv

theorem Done.other {g : Nat} {kv : Value} {w : World} (h : Done g kv w) {p : Addr} (hp : p.block ≠ g) (u : Value) : Done g kv (w.setCell p u) := by
  obtain ⟨a, c, h⟩ := h
  exact ⟨a, c, h.other hp u⟩

theorem Done.of_below {g B : Nat} {kv : Value} {w w' : World} (h : Done g kv w) (hb : Below B w w') (hB : g < B) : Done g kv w' := by
  obtain ⟨a, c, h⟩ := h
  exact ⟨a, c, h.of_below hb hB⟩

theorem space_has (t : ByteArray) (r : List UInt8) (h : t.data.toList = 32 :: r) : t.data.toList = (⟨#[32]⟩ : ByteArray).data.toList ++ r := by rw [h]; rfl

set_option maxHeartbeats 4000000 in
set_option maxRecDepth 100000 in
theorem takes_box (g xb : Nat) (op : Int) (hop : op = 5 ∨ op = 7 ∨ op = 8 ∨ op = 10) (t cl b0 : ByteArray) (r : List UInt8) (rv kv : Value) (w : World) (hA : At g w t rv kv) (ht : t.data.toList = 32 :: r) (hgx : xb ≠ g)
    (h1 : w.cell? ⟨xb, 1, none⟩ = some (.int .i64 op)) (h3 : w.cell? ⟨xb, 3, none⟩ = some (.string b0)) (hf : ∀ j, w.frozen? ⟨xb, j, none⟩ = false)
    (hBox : ∀ w1, At g w1 ⟨r.toArray⟩ rv kv → Kept g w w1 → Calls Tryz.prog 81 #[PP g] w1 fun e w' => e = .returned (.string cl) ∧ Done g kv w' ∧ Kept g w1 w') :
    Calls Tryz.prog 52 #[PP g, .pointer (some ⟨xb, 0, none⟩)] w fun e w' => e = .returned (.tuple #[]) ∧ ∃ w1, w' = w1.setCell ⟨xb, 3, none⟩ (.string cl) ∧ Done g kv w1 ∧ Kept g w w1 := by
  have hE := eat_has g t ⟨#[32]⟩ r rv kv w hA (space_has t r ht)
  have hlt := World.block_lt_of_cell? _ _ h1
  have HE := Lib.hid hE; clear hE
  have HB := Lib.hid hBox; clear hBox
  have Hf := Lib.hid hf; clear hf
  have H3 := Lib.hid h3; clear h3
  clear hA ht
  rcases hop with rfl | rfl | rfl | rfl
  all_goals
    go_enter Tryz.func52, Tryz.ntmps52
    go_wp2_with fail
    refine HE.out.mono ?_
    rintro e w1 ⟨rfl, hA1, hK1⟩
    have h1' := (hK1.cell (p := ⟨xb, 1, none⟩) hlt hgx).trans h1
    go_wp2_with fail
    refine (HB.out w1 hA1 hK1).mono ?_
    rintro e w2 ⟨rfl, hD, hK2⟩
    have hK := hK1.trans hK2
    have h3' := (hK.cell (p := ⟨xb, 3, none⟩) hlt hgx).trans H3.out
    have hf3 := (hK.frozen (p := ⟨xb, 3, none⟩) hlt hgx).trans (Hf.out 3)
    go_wp2_with fail
    first
    | (go_end0; exact ⟨rfl, w2, rfl, hD, hK⟩)
    | (refine bodyPost_ret (results_none rfl _ _ _) rfl ?_; exact ⟨rfl, w2, rfl, hD, hK⟩)

/-- All that was there stands as it was, but for blocks g and x. -/
structure Kept2 (g x : Nat) (w w' : World) : Prop where
  os : w'.os = w.os
  tape : w'.tape = w.tape
  output : w'.output = w.output
  size : w.heap.size ≤ w'.heap.size
  block : ∀ k, k < w.heap.size → k ≠ g → k ≠ x → w'.heap[k]? = w.heap[k]?

theorem Kept2.refl (g x : Nat) (w : World) : Kept2 g x w w := ⟨rfl, rfl, rfl, Nat.le_refl _, fun _ _ _ _ => rfl⟩
theorem Kept.two {g : Nat} {w w' : World} (h : Kept g w w') (x : Nat) : Kept2 g x w w' := ⟨h.os, h.tape, h.output, h.size, fun k hk hg _ => h.block k hk hg⟩
theorem Kept2.trans {g x : Nat} {a b c : World} (h : Kept2 g x a b) (k : Kept2 g x b c) : Kept2 g x a c :=
  ⟨k.os.trans h.os, k.tape.trans h.tape, k.output.trans h.output, Nat.le_trans h.size k.size, fun i hi hg hx => (k.block i (Nat.lt_of_lt_of_le hi h.size) hg hx).trans (h.block i hi hg hx)⟩
theorem Kept2.setx {g x : Nat} {a w : World} (h : Kept2 g x a w) (o : Nat) (u : Value) : Kept2 g x a (w.setCell ⟨x, o, none⟩ u) :=
  ⟨h.os, h.tape, h.output, by simpa [World.setCell] using h.size, fun k hk hg hx => (Below.heap_setCell _ _ _ _ hx).trans (h.block k hk hg hx)⟩
theorem Kept2.cell {g x : Nat} {w w' : World} (h : Kept2 g x w w') {p : Addr} (hp : p.block < w.heap.size) (hg : p.block ≠ g) (hx : p.block ≠ x) : w'.cell? p = w.cell? p := World.cell?_of_block (w := w) (h.block p.block hp hg hx)
theorem Kept2.below {g x B : Nat} {w w' : World} (h : Kept2 g x w w') (hg : B ≤ g) (hx : B ≤ x) (hB : B ≤ w.heap.size) : Below B w w' :=
  ⟨h.os, h.tape, h.output, h.size, fun k hk => h.block k (by omega) (by omega) (by omega)⟩

theorem cells_at {w : World} {x j : Nat} {cs : Array Value} {t : TypeId} {v : Value} (h : w.heap[x]? = some (.cells cs t (0, 0))) (hj : cs[j]? = some v) : w.cell? ⟨x, j, none⟩ = some v := by rw [Lib.cell_of_heap h]; exact hj

/-- 'takes' at a command that takes a box alone. -/
theorem takes_box2 (g xb : Nat) (op : Int) (hop : op = 5 ∨ op = 7 ∨ op = 8 ∨ op = 10) (t cl b0 : ByteArray) (cs : Array Value) (r : List UInt8) (rv kv : Value) (w : World) (hA : At g w t rv kv) (ht : t.data.toList = 32 :: r) (hgx : xb ≠ g)
    (hX : w.heap[xb]? = some (.cells cs 31 (0, 0))) (h1 : cs[1]? = some (.int .i64 op)) (h3 : cs[3]? = some (.string b0))
    (hBox : ∀ w1, At g w1 ⟨r.toArray⟩ rv kv → Kept2 g xb w w1 → Calls Tryz.prog 81 #[PP g] w1 fun e w' => e = .returned (.string cl) ∧ Done g kv w' ∧ Kept g w1 w') :
    Calls Tryz.prog 52 #[PP g, .pointer (some ⟨xb, 0, none⟩)] w fun e w' => e = .returned (.tuple #[]) ∧ w'.heap[xb]? = some (.cells (cs.setIfInBounds 3 (.string cl)) 31 (0, 0)) ∧ Done g kv w' ∧ Kept2 g xb w w' := by
  refine (takes_box g xb op hop t cl b0 r rv kv w hA ht hgx (cells_at hX h1) (cells_at hX h3) (fun j => Lib.frozen_of_heap hX j) (fun w1 hA1 hK1 => hBox w1 hA1 (hK1.two xb))).mono ?_
  rintro e w' ⟨rfl, w1, rfl, hD, hK⟩
  have hlt := (Array.getElem?_eq_some_iff.1 hX).1
  exact ⟨rfl, heap_setCell_same w1 xb 3 cs 31 _ ((hK.block xb hlt hgx).trans hX), hD.other (p := ⟨xb, 3, none⟩) hgx _, (hK.two xb).setx 3 _⟩

set_option maxHeartbeats 4000000 in
set_option maxRecDepth 100000 in
theorem takes_copy (g xb : Nat) (t cl b0 : ByteArray) (s0 : Value) (cs : Array Value) (rs : List (Nat × Nat)) (r r2 : List UInt8) (rv kv : Value) (w : World) (hA : At g w t rv kv) (ht : t.data.toList = 32 :: r) (hgx : xb ≠ g)
    (hX : w.heap[xb]? = some (.cells cs 31 (0, 0))) (h1 : cs[1]? = some (.int .i64 22)) (h3 : cs[3]? = some (.string b0)) (h5 : cs[5]? = some s0)
    (hSet : ∀ w1, At g w1 ⟨r.toArray⟩ rv kv → Kept2 g xb w w1 → Calls Tryz.prog 79 #[PP g] w1 fun e w' => ∃ v, e = .returned v ∧ At g w' ⟨(32 :: r2).toArray⟩ rv kv ∧ Kept g w1 w' ∧ w'.ownsRow w1.heap.size 64 2 v rs.length (rcells rs))
    (hBox : ∀ w1, At g w1 ⟨r2.toArray⟩ rv kv → Kept2 g xb w w1 → Calls Tryz.prog 81 #[PP g] w1 fun e w' => e = .returned (.string cl) ∧ Done g kv w' ∧ Kept g w1 w') :
    Calls Tryz.prog 52 #[PP g, .pointer (some ⟨xb, 0, none⟩)] w fun e w' => ∃ v, e = .returned (.tuple #[]) ∧ w'.heap[xb]? = some (.cells ((cs.setIfInBounds 5 v).setIfInBounds 3 (.string cl)) 31 (0, 0)) ∧ Done g kv w' ∧ Kept2 g xb w w' ∧
      w'.ownsRow w.heap.size 64 2 v rs.length (rcells rs) := by
  have hE := eat_has g t ⟨#[32]⟩ r rv kv w hA (space_has t r ht)
  have hlt := (Array.getElem?_eq_some_iff.1 hX).1
  have Hglt := Lib.hid hA.lt
  have HE := Lib.hid hE; clear hE
  have HB := Lib.hid hBox; clear hBox
  have HS := Lib.hid hSet; clear hSet
  have HX := Lib.hid hX
  have H3 := Lib.hid h3; clear h3
  have H5 := Lib.hid h5; clear h5
  have c1 := cells_at hX h1
  have H1 := Lib.hid h1; clear h1
  clear hA ht hX
  go_enter Tryz.func52, Tryz.ntmps52
  go_wp2_with fail
  refine HE.out.mono ?_
  rintro e w1 ⟨rfl, hA1, hK1⟩
  have X1 := Lib.hid ((hK1.block xb hlt hgx).trans HX.out)
  have c1' := cells_at X1.out H1.out
  go_wp2_with fail
  refine (HS.out w1 hA1 (hK1.two xb)).mono ?_
  rintro e w2 ⟨v, rfl, hA2, hK2, ho⟩
  have X2 := Lib.hid ((hK2.block xb (Nat.lt_of_lt_of_le hlt hK1.size) hgx).trans X1.out)
  have c2 := cells_at X2.out H5.out
  have f2 := Lib.frozen_of_heap X2.out 5
  obtain ⟨A, cp, rfl⟩ : ∃ A cp, v = .slice A rs.length cp := by
    rcases ho.2 with ⟨rfl, h⟩ | ⟨g, cap, cur, hv, _⟩
    · exact ⟨none, 0, by rw [h]⟩
    · exact ⟨_, _, hv⟩
  have Ho := Lib.hid ho; clear ho
  have hxlt2 : xb < w1.heap.size := Nat.lt_of_lt_of_le hlt hK1.size
  go_wp2_with fail
  have hA3 := hA2.other (p := ⟨xb, 5, none⟩) hgx (.slice A rs.length cp)
  refine (eat_has g _ ⟨#[32]⟩ r2 rv kv _ hA3 (space_has _ r2 (by simp))).mono ?_
  rintro e w4 ⟨rfl, hA4, hK4⟩
  have hK24 : Kept2 g xb w w4 := (((hK1.trans hK2).two xb).setx 5 _).trans (hK4.two xb)
  have X4 := Lib.hid ((hK4.block xb (by simp; exact Nat.lt_of_lt_of_le hxlt2 hK2.size) hgx).trans (heap_setCell_same w2 xb 5 cs 31 (.slice A rs.length cp) X2.out))
  go_wp2_with fail
  refine (HB.out w4 hA4 hK24).mono ?_
  rintro e w5 ⟨rfl, hD, hK5⟩
  have hl4 : xb < w4.heap.size := Nat.lt_of_lt_of_le hlt hK24.size
  have X5 := Lib.hid ((hK5.block xb hl4 hgx).trans X4.out)
  have c5 := cells_at (j := 3) X5.out (by rw [Array.getElem?_setIfInBounds]; simp; exact H3.out)
  have f5 := Lib.frozen_of_heap X5.out 3
  go_wp2_with fail
  have fin : (w5.setCell ⟨xb, 3, none⟩ (.string cl)).heap[xb]? = some (.cells ((cs.setIfInBounds 5 (.slice A rs.length cp)).setIfInBounds 3 (.string cl)) 31 (0, 0)) := heap_setCell_same w5 xb 3 _ 31 _ X5.out
  have hoF : (w5.setCell ⟨xb, 3, none⟩ (.string cl)).ownsRow w.heap.size 64 2 (.slice A rs.length cp) rs.length (rcells rs) := by
    refine ownsRow_weaken (ownsRow_same Ho.out (fun k cs' t' fr hk hh => ?_)) hK1.size
    have hk2 := (Array.getElem?_eq_some_iff.1 hh).1
    have hkg : k ≠ g := by have h1 := Hglt.out; have h2 := hK1.size; omega
    have hk4 : k < w4.heap.size := by have := hK4.size; simp at this; omega
    rw [setCell_heap_loop (by simp only []; omega), hK5.block k hk4 hkg, hK4.block k (by simpa using hk2) hkg, setCell_heap_loop (by simp only []; omega)]
  first
  | (go_end0; exact ⟨_, rfl, fin, hD.other (p := ⟨xb, 3, none⟩) hgx _, (hK24.trans (hK5.two xb)).setx 3 _, hoF⟩)
  | (refine bodyPost_ret (results_none rfl _ _ _) rfl ?_; exact ⟨_, rfl, fin, hD.other (p := ⟨xb, 3, none⟩) hgx _, (hK24.trans (hK5.two xb)).setx 3 _, hoF⟩)

end Go.Proofs.YtjamgkcmpcnfpaaGreatDoor

namespace Go.Proofs.YtjamgkcmpcnfpaaGreatDoor
open Go.RowKit

/-- The names that the walks look up, and what they stand for. -/
def opsT : List (List UInt8 × Int) :=
  [([115, 101, 108, 101, 99, 116], 5), ([99, 114, 101, 97, 116, 101], 7), ([100, 101, 108, 101, 116, 101], 8), ([115, 117, 98, 115, 99, 114, 105, 98, 101], 10), ([99, 111, 112, 121], 22),
   ([117, 105, 100], 0), ([115, 116, 111, 114, 101], 21), ([97, 112, 112, 101, 110, 100], 15), ([110, 111, 111, 112], 2)]

/-- The map of names, in a world. -/
structure Look (bm : Nat) (W : World) : Prop where
  cell : W.cell? ⟨0, 0, none⟩ = some (.map (some bm))
  look : ∀ p ∈ opsT, (Instr.lookup 85 (.map (some bm)) (.string ⟨p.1.toArray⟩) false).run Tryz.prog W = .ok (.int .i64 p.2) W

def zeroCmd : Array Value := #[.string ⟨#[]⟩, .int .i64 0, .bool false, .string ⟨#[]⟩, .string ⟨#[]⟩, .slice none 0 0, .int .i64 0, .bool false, .int .i64 0, .int .i64 0, .int .i64 0, .string ⟨#[]⟩, .slice none 0 0, .slice none 0 0, .slice none 0 0]

set_option maxHeartbeats 4000000 in
set_option maxRecDepth 100000 in
theorem command_plain (g bm : Nat) (t : ByteArray) (tag nm r : List UInt8) (op : Int) (rv kv : Value) (w : World) (hA : At g w t rv kv) (ht : t.data.toList = tag ++ 32 :: (nm ++ r)) (hs : t.size ≤ 9223372036854775807)
    (htag : tag ≠ []) (ha : allB (atomOr [93]) tag = true) (hl : tag.length ≤ 40) (hp : Lib.indexByte tag 43 < 0)
    (hnm : nm ≠ []) (hna : allB nameB nm = true) (hnb : stopB nameB r = true) (hop : (smallL nm, op) ∈ opsT) (h0 : op ≠ 0) (huid : smallL nm ≠ [117, 105, 100])
    (hLook : ∀ W, Kept2 g w.heap.size w W → Look bm W)
    (C : Array Value → Prop) (hC : ∀ cs, C cs → cs.size = 15 ∧ cs.all (·.oneCell') = true) (R : Array Value → World → Prop)
    (hTakes : ∀ w1, At g w1 ⟨r.toArray⟩ rv kv → w1.heap[w.heap.size]? = some (.cells ((zeroCmd.setIfInBounds 0 (.string ⟨tag.toArray⟩)).setIfInBounds 1 (.int .i64 op)) 31 (0, 0)) → Kept2 g w.heap.size w w1 →
      Calls Tryz.prog 52 #[PP g, .pointer (some ⟨w.heap.size, 0, none⟩)] w1 fun e w' => ∃ cs, e = .returned (.tuple #[]) ∧ C cs ∧ w'.heap[w.heap.size]? = some (.cells cs 31 (0, 0)) ∧ Done g kv w' ∧ Kept2 g w.heap.size w1 w' ∧ R cs w') :
    Calls Tryz.prog 24 #[PP g] w fun e w' => ∃ cs, e = .returned (.agg cs) ∧ C cs ∧ Done g kv w' ∧ Kept2 g w.heap.size w w' ∧ R cs w' := by
  have hT := tag_any g t tag (32 :: (nm ++ r)) rv kv (w.alloc (.cells zeroCmd 31)) (hA.alloc _) ht hs htag ha (show (!(atomOr [93] ((32 : UInt8).toNat : Int))) = true from by decide) hl hp
  have hsz2 : (⟨(nm ++ r).toArray⟩ : ByteArray).size ≤ 9223372036854775807 := by rw [size_bytes, ht] at hs; rw [size_bytes]; simp at hs ⊢; omega
  have Hsz2 := Lib.hid hsz2; clear hsz2
  have hX0 : (w.alloc (.cells zeroCmd 31)).heap[w.heap.size]? = some (.cells zeroCmd 31 (0, 0)) := heap_alloc_at _ _ _ rfl
  have hK0 : Kept g w (w.alloc (.cells zeroCmd 31)) := (Kept.refl _ _).alloc _
  have hlt0 : w.heap.size < (w.alloc (.cells zeroCmd 31)).heap.size := by simp
  have hgx : w.heap.size ≠ g := by have := hA.lt; omega
  have HT := Lib.hid hT; clear hT
  have HX0 := Lib.hid hX0; clear hX0
  have HK0 := Lib.hid hK0; clear hK0
  have HL := Lib.hid hLook; clear hLook
  have HTk := Lib.hid hTakes; clear hTakes
  have HC := Lib.hid hC; clear hC
  have hop0 : (op != 0) = true := by rw [bne_iff_ne]; exact h0
  have Hop := Lib.hid hop; clear hop
  have huid' : (smallL nm == [117, 105, 100]) = false := by simpa using huid
  have Hn : Hid (∀ w1, At g w1 ⟨(nm ++ r).toArray⟩ rv kv → Calls Tryz.prog 51 #[PP g] w1 fun e w' => e = .returned (.string ⟨(smallL nm).toArray⟩) ∧ At g w' ⟨r.toArray⟩ rv kv ∧ Kept g w1 w') :=
    Lib.hid (fun w1 hA1 => name_any g _ nm r rv kv w1 hA1 (by simp) Hsz2.out hnm hna hnb)
  clear hA ht hs htag ha hl hp hnm hna hnb h0 huid
  go_enter Tryz.func24, Tryz.ntmps24
  go_wp2_with fail
  refine HT.out.mono ?_
  generalize (w.alloc (.cells zeroCmd 31)) = W0 at HX0 HK0 hlt0
  rintro e w1 ⟨rfl, hA1, hK1⟩
  have X1 := Lib.hid ((hK1.block _ hlt0 hgx).trans HX0.out)
  have c10 := cells_at (j := 0) X1.out rfl
  have f10 := Lib.frozen_of_heap X1.out 0
  go_wp2_with fail
  have X1' := Lib.hid (heap_setCell_same w1 w.heap.size 0 _ 31 (.string ⟨tag.toArray⟩) X1.out)
  have hA1' := hA1.other (p := ⟨w.heap.size, 0, none⟩) hgx (.string ⟨tag.toArray⟩)
  have hK1' : Kept2 g w.heap.size w (w1.setCell ⟨w.heap.size, 0, none⟩ (.string ⟨tag.toArray⟩)) := ((HK0.out.trans hK1).two _).setx 0 _
  have hlt1 : w.heap.size < (w1.setCell ⟨w.heap.size, 0, none⟩ (.string ⟨tag.toArray⟩)).heap.size := by have := hK1.size; simp; omega
  generalize hW1 : w1.setCell ⟨w.heap.size, 0, none⟩ (.string ⟨tag.toArray⟩) = W1 at *
  clear hW1 c10 f10 hA1 hK1
  refine (eat_has g _ ⟨#[32]⟩ (nm ++ r) rv kv _ hA1' (space_has _ _ (by simp))).mono ?_
  rintro e w2 ⟨rfl, hA2, hK2⟩
  go_wp2_with fail
  refine (Hn.out w2 hA2).mono ?_
  rintro e w3 ⟨rfl, hA3, hK3⟩
  have hK3' : Kept2 g w.heap.size w w3 := hK1'.trans ((hK2.trans hK3).two _)
  have X3 := Lib.hid (((hK2.trans hK3).block _ hlt1 hgx).trans X1'.out)
  have hlc := (HL.out w3 hK3').cell
  have hll := (HL.out w3 hK3').look _ Hop.out
  simp only at hll
  have c31 := cells_at (j := 1) X3.out rfl
  have f31 := Lib.frozen_of_heap X3.out 1
  have hlt3 : w.heap.size < w3.heap.size := Nat.lt_of_lt_of_le hlt1 (hK2.trans hK3).size
  clear hA2 hK2 hK3 hK1'
  go_wp2_with fail
  refine (must_yes _).mono ?_
  rintro e w4 ⟨rfl, rfl⟩
  have X4 := heap_setCell_same w3 w.heap.size 1 _ 31 (.int .i64 op) X3.out
  have hA4 := hA3.other (p := ⟨w.heap.size, 1, none⟩) hgx (.int .i64 op)
  have hK4 := hK3'.setx 1 (.int .i64 op)
  have hT4 := Lib.hid (HTk.out _ hA4 X4 hK4)
  clear X4 hA4 hlc hll c31 f31 hA3
  go_wp2_with fail
  refine hT4.out.mono ?_
  rintro e w5 ⟨cs, rfl, hCs, X5, ⟨a, cp, hA5⟩, hK5, hR⟩
  obtain ⟨hz5, h15⟩ := HC.out cs hCs
  have HX5 := Lib.hid X5; clear X5
  have Hz5 := Lib.hid hz5; clear hz5
  have H15 := Lib.hid h15; clear h15
  go_wp2_with fail
  refine (over_any g _ a 0 cp kv w5 hA5).mono ?_
  rintro e w6 ⟨rfl, rfl⟩
  have hov : ((⟨#[]⟩ : ByteArray).toList.isEmpty && decide (0 = 0)) = true := by rw [ByteArray.toList_eq]; rfl
  rw [hov]
  go_wp2_with fail
  refine (must_yes _).mono ?_
  rintro e w7 ⟨rfl, rfl⟩
  have hi : (Tryz.prog.info? 31).map (·.size) = some cs.size := by rw [Hz5.out]; kernel_rfl
  go_wp2_with (first | (refine wpList_load_row rfl 31 _ rfl w.heap.size rfl 31 cs (0, 0) _ HX5.out Tryz.underlying31 rfl hi ?_) | (refine wpList_store_row rfl 31 _ _ rfl w.heap.size cs rfl rfl 31 cs HX5.out hi rfl H15.out ?_; rw [setRow_self _ _ _ _ _ HX5.out]))
  refine bodyPost_ret (results_cell_row rfl _ _ w.heap.size 31 cs (0, 0) _ rfl HX5.out Tryz.underlying31 rfl hi) rfl ?_
  exact ⟨cs, rfl, hCs, ⟨a, cp, hA5⟩, hK4.trans hK5, hR⟩

end Go.Proofs.YtjamgkcmpcnfpaaGreatDoor
