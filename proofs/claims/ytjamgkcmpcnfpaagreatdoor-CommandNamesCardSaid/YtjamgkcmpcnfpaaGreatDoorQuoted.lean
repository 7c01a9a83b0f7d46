/-
  The parser's 'quoted', at a text of plain bytes up to the quote.
-/
import Derived.Test.YtjamgkcmpcnfpaaGreatDoorBuild
import Derived.Test.YtjamgkcmpcnfpaaGreatDoorName
import Derived.Deep.LoopGhost
namespace Go.Proofs.YtjamgkcmpcnfpaaGreatDoor
open Go.RowKit

/-- A byte that stands for itself within quotes. -/
def qB (c : Int) : Bool := decide (1 ≤ c) && decide (c ≤ 127) && (c != 13) && (c != 10) && !(c == 34) && !(c == 92)

theorem qB_parts {c : Int} (h : qB c = true) : 1 ≤ c ∧ c ≤ 127 ∧ (c != 13) = true ∧ (c != 10) = true ∧ (c == 34) = false ∧ (c == 92) = false := by
  simp [qB] at h
  obtain ⟨⟨⟨⟨⟨h1, h2⟩, h3⟩, h4⟩, h5⟩, h6⟩ := h
  exact ⟨h1, h2, by simpa using h3, by simpa using h4, by simpa using h5, by simpa using h6⟩

/-- After some rounds: 'done' is written, 'todo' is left. -/
def QRel (g : Nat) (w : World) (body rest : List UInt8) (rv kv : Value) (k : Nat) (wr : World) : Prop :=
  ∃ done todo, body = done ++ todo ∧ todo.length = k ∧ At g wr ⟨(todo ++ 34 :: rest).toArray⟩ rv kv ∧ Kept g w wr ∧ w.heap.size < wr.heap.size ∧ Lib.IsBuilder 134 5 w.heap.size w.heap.size (Lib.byteCells done) wr

set_option maxHeartbeats 4000000 in
set_option maxRecDepth 100000 in
theorem quoted_any (g : Nat) (t : ByteArray) (body rest : List UInt8) (rv kv : Value) (w : World) (hA : At g w t rv kv) (ht : t.data.toList = body ++ 34 :: rest) (hs : t.size ≤ 140737488355328)
    (hq : allB qB body = true) :
    Calls Tryz.prog 109 #[PP g] w fun e w' => e = .returned (.string ⟨body.toArray⟩) ∧ At g w' ⟨rest.toArray⟩ rv kv ∧ Kept g w w' := by
  have hlen : body.length + rest.length + 1 ≤ 140737488355328 := by rw [size_bytes, ht] at hs; simp at hs; omega
  have hA' : At g w ⟨(body ++ 34 :: rest).toArray⟩ rv kv := by have e : t = ⟨(body ++ 34 :: rest).toArray⟩ := ext_bytes (by simpa using ht); rw [← e]; exact hA
  have hst : QRel g w body rest rv kv body.length (w.alloc (.cells #[.pointer none, .slice none 0 0] 134)) := ⟨[], body, by simp, rfl, hA'.alloc _, (Kept.refl _ _).alloc _, by simp, IsBuilder_new w⟩
  have hgw := hA.lt
  clear ht hA hA'
  have Hq := Lib.hid hq; clear hq
  go_enter Tryz.func109, Tryz.ntmps109
  go_wp2_with fail
  go_loopg [] body.length (fun k wr => QRel g w body rest rv kv k wr)
  case atStart => exact hst
  case round =>
    obtain ⟨done, todo, hb, hk, hA, hK, hz, hI⟩ := hrel
    have hg : g < w.heap.size := hgw
    cases todo with
    | nil =>
      generalize hT : (⟨([] ++ 34 :: rest).toArray⟩ : ByteArray) = T at hA
      have hTl : T.data.toList = [34] ++ rest := by rw [← hT]; simp
      have hx := extract_snd T [34] rest hTl
      have hpos : 0 < T.size := by rw [size_bytes, hTl]; simp
      have e0 : (((T[0]'hpos).toNat : Int) == 34) = true := by rw [← byteAt_of T 0 hpos, byteAt_list T _ hTl]; rfl
      have hne : T.toList.isEmpty = false := by rw [ByteArray.toList_eq, hTl]; rfl
      have h0 := hA.c0
      have h0f := hA.f0
      have hl : T.size ≤ 140737488355328 := by rw [size_bytes, hTl]; simp; omega
      have Hx := Lib.hid hx; clear hx
      have Hb := Lib.hid hb; clear hb
      clear hT hTl hk
      go_wp2_with fail
      refine (must_yes _).mono ?_
      rintro e w1 ⟨rfl, rfl⟩
      go_wp2_with fail
      refine (Tryz.Builder_String_any w.heap.size w.heap.size done _ (IsBuilder_setCell hI (a := ⟨g, 0, none⟩) hg _) (by simp; omega)).mono ?_
      rintro e w2 ⟨rfl, hB⟩
      go_wp2_with fail
      go_ret
      have hX := Hx.out
      simp only [List.length_singleton] at hX
      rw [hX] at hB
      have hbd := Hb.out
      rw [List.append_nil] at hbd
      subst hbd
      exact ⟨rfl, (hA.set0 _).of_below hB hg, (hK.setg 0 _).andBelow hB (Nat.le_refl _)⟩
    | cons c todo =>
      generalize hT : (⟨(c :: todo ++ 34 :: rest).toArray⟩ : ByteArray) = T at hA
      have hTl : T.data.toList = [c] ++ (todo ++ 34 :: rest) := by rw [← hT]; simp
      have hx := extract_snd T [c] _ hTl
      have hpos : 0 < T.size := by rw [size_bytes, hTl]; simp
      have hall := Hq.out
      rw [hb] at hall
      have hqc : qB (c.toNat : Int) = true := by simp [allB] at hall; exact hall.2.1
      have hT0 : ((T[0]'hpos).toNat : Int) = (c.toNat : Int) := by rw [← byteAt_of T 0 hpos, byteAt_list T _ hTl]; rfl
      rw [← hT0] at hqc
      obtain ⟨q1, q2, q3, q4, q5, q6⟩ := qB_parts hqc
      have hne : T.toList.isEmpty = false := by rw [ByteArray.toList_eq, hTl]; rfl
      have h0 := hA.c0
      have h0f := hA.f0
      have hl : T.size ≤ 140737488355328 := by rw [size_bytes, hTl]; rw [hb] at hlen; simp at hlen ⊢; omega
      have hdl : (Lib.byteCells done).length + 1 ≤ 140737488355328 := by rw [hb] at hlen; simp [Lib.byteCells] at hlen ⊢; omega
      have Hx := Lib.hid hx; clear hx
      have Hb := Lib.hid hb; clear hb
      have HT0 := Lib.hid hT0; clear hT0
      have Hk := Lib.hid hk; clear hk
      clear hT hTl hall hqc
      go_wp2_with fail
      refine (must_yes _).mono ?_
      rintro e w1 ⟨rfl, rfl⟩
      go_wp2_with fail
      refine (must_yes _).mono ?_
      rintro e w1 ⟨rfl, rfl⟩
      go_wp2_with fail
      refine (WriteByte_any w.heap.size w.heap.size (Lib.byteCells done) _ _ (IsBuilder_setCell hI (a := ⟨g, 0, none⟩) hg _) hdl (by simp; omega)).mono ?_
      rintro e w2 ⟨rfl, hI2, hB⟩
      go_wp2_with fail
      go_roundg todo.length
      case measure => have := Hk.out; simp at this; omega
      case rel =>
        have hX := Hx.out
        simp only [List.length_singleton] at hX
        rw [hX] at hB
        rw [HT0.out] at hI2
        refine ⟨done ++ [c], todo, by rw [Hb.out]; simp, rfl, (hA.set0 _).of_below hB hg, (hK.setg 0 _).andBelow hB (Nat.le_refl _), ?_, Or.inr ?_⟩
        · have := hB.size; simp at this; omega
        · simpa [Lib.byteCells] using hI2

end Go.Proofs.YtjamgkcmpcnfpaaGreatDoor
