/-
  strings.SplitSeq at a separator of one byte: its iterator hands out the pieces, in order.
-/
import Derived.Test.YtjamgkcmpcnfpaaGreatDoorRange
import Derived.Test.YtjamgkcmpcnfpaaGreatDoorTok
namespace Go.Proofs.YtjamgkcmpcnfpaaGreatDoor
open Go.RowKit

attribute [local go_sem] Oper.semAt_some

/-- Pieces with a byte between them. -/
def joinC (c : UInt8) : List (List UInt8) → List UInt8
  | [] => []
  | [s] => s
  | s :: r => s ++ c :: joinC c r

theorem joinC_cons (c : UInt8) (s t : List UInt8) (r : List (List UInt8)) : joinC c (s :: t :: r) = s ++ c :: joinC c (t :: r) := rfl

theorem indexByte_none (l : List UInt8) (c : UInt8) (h : c ∉ l) : Lib.indexByte l c = -1 := by
  induction l with
  | nil => rfl
  | cons b l ih =>
    have hb : ¬ b = c := fun e => h (by simp [e])
    have hl := ih (fun e => h (by simp [e]))
    unfold Lib.indexByte
    rw [hl]
    simp [hb]

theorem indexByte_here (l r : List UInt8) (c : UInt8) (h : c ∉ l) : Lib.indexByte (l ++ c :: r) c = l.length := by
  induction l with
  | nil => simp [Lib.indexByte]
  | cons b l ih =>
    have hb : ¬ b = c := fun e => h (by simp [e])
    have hl := ih (fun e => h (by simp [e]))
    rw [List.cons_append]
    unfold Lib.indexByte
    rw [hl]
    have h1 : ((l.length : Int) == -1) = false := by rw [beq_eq_false_iff_ne]; omega
    simp [hb, h1]

set_option maxHeartbeats 1000000 in
theorem SplitSeq_any (s sep : ByteArray) (w : World) :
    Calls Tryz.prog 138 #[.string s, .string sep] w fun e w' => e = .returned (.func (.func 207) #[] #[.pointer (some ⟨w.heap.size + 1, 0, none⟩), .pointer (some ⟨w.heap.size, 0, none⟩), .pointer (some ⟨w.heap.size + 2, 0, none⟩)]) ∧
      w' = ((w.alloc (.cells #[.string s] 9)).alloc (.cells #[.string sep] 9)).alloc (.cells #[.int .i64 0] 3) := by
  have hmf : ∀ (fn : Fn) (first cap : Array Value) (w : World), (Instr.makeFunc fn first cap).run Tryz.prog w = .ok (.func fn first cap) w := fun _ _ _ _ => rfl
  go_enter Tryz.func138, Tryz.ntmps138
  go_wp2
  go_ret
  exact ⟨rfl, rfl⟩

/-- The bytes that the iterator still has. -/
def leftOf (sb : Nat) (w : World) : Nat := match w.cell? ⟨sb, 0, none⟩ with | some (.string s) => s.size | _ => 0

theorem leftOf_eq {sb : Nat} {w : World} {s : ByteArray} (h : w.cell? ⟨sb, 0, none⟩ = some (.string s)) : leftOf sb w = s.size := by unfold leftOf; rw [h]

/-- Between two rounds: 'pre' was handed out, 'rest' is left. -/
def SeqRel (H gb sb pb vb : Nat) (parts : List (List UInt8)) (K : List (List UInt8) → World → Prop) (W wr : World) : Prop :=
  ∃ pre rest, parts = pre ++ rest ∧ rest ≠ [] ∧ wr.cell? ⟨sb, 0, none⟩ = some (.string ⟨(joinC 44 rest).toArray⟩) ∧ wr.frozen? ⟨sb, 0, none⟩ = false ∧
    wr.cell? ⟨pb, 0, none⟩ = some (.string ⟨#[44]⟩) ∧ wr.cell? ⟨vb, 0, none⟩ = some (.int .i64 0) ∧ (joinC 44 rest).length ≤ 2000 ∧ K pre wr

set_option maxHeartbeats 4000000 in
set_option maxRecDepth 100000 in
theorem splitSeq1_in (m : Nat) (hm : 1 ≤ m) (l H gb sb pb vb : Nat) (parts : List (List UInt8)) (K : List (List UInt8) → World → Prop) (W : World)
    (hlt : sb < H ∧ pb < H ∧ vb < H) (hgb : sb ≠ gb ∧ pb ≠ gb ∧ vb ≠ gb) (hne : pb ≠ sb ∧ vb ≠ sb)
    (hKs : ∀ pre X u, K pre X → K pre (X.setCell ⟨sb, 0, none⟩ u))
    (hY : ∀ pre x X, K pre X → pre ++ [x] <+: parts → YieldAt Fence.wide (m - 1) Tryz.prog l #[.string ⟨x.toArray⟩] X fun e X' => e = .returned (.bool true) ∧ K (pre ++ [x]) X' ∧ KeptTo H gb X X')
    (hs : W.cell? ⟨sb, 0, none⟩ = some (.string ⟨(joinC 44 parts).toArray⟩)) (hsf : W.frozen? ⟨sb, 0, none⟩ = false) (hp : W.cell? ⟨pb, 0, none⟩ = some (.string ⟨#[44]⟩)) (hv : W.cell? ⟨vb, 0, none⟩ = some (.int .i64 0))
    (hparts : parts ≠ []) (hno : ∀ x ∈ parts, (44 : UInt8) ∉ x) (hsz : (joinC 44 parts).length ≤ 2000) (h0 : K [] W) :
    CallsIn Fence.wide m Tryz.prog 207 #[.func (.yield l) #[] #[], .pointer (some ⟨pb, 0, none⟩), .pointer (some ⟨sb, 0, none⟩), .pointer (some ⟨vb, 0, none⟩)] W fun e X' => (∃ v, e = .returned v) ∧ K parts X' := by
  refine callsIn_of_wp Tryz.func207 rfl trivial ?_ rfl
  simp only [Tryz.ntmps207, List.size_toArray, List.length_cons, List.length_nil, Nat.reduceAdd, Nat.reduceSub, Array.replicate_succ, Array.replicate_zero, List.push_toArray, List.append_toArray, List.nil_append, List.cons_append]
  gi_wp2_with fail
  have hstart : SeqRel H gb sb pb vb parts K W W := ⟨[], parts, rfl, hparts, hs, hsf, hp, hv, hsz, h0⟩
  clear hs hsf hp hv h0
  gi_loopw [] (fun wr => SeqRel H gb sb pb vb parts K W wr) (fun wr => leftOf sb wr)
  case atStart => exact hstart
  case round =>
    obtain ⟨pre, rest, hpr, hr, hs, hsf, hp, hv, hlen, hK⟩ := hrel
    obtain ⟨x, rest, rfl⟩ : ∃ x r, rest = x :: r := by cases rest with | nil => exact absurd rfl hr | cons x r => exact ⟨x, r, rfl⟩
    have hnx : (44 : UInt8) ∉ x := hno x (by rw [hpr]; simp)
    have Hpr := Lib.hid hpr; clear hpr
    have Hno := Lib.hid hno; clear hno
    cases rest with
    | nil =>
      obtain ⟨fn, tmps, assign, body, hy, hR⟩ := hY pre x wr hK (by rw [Hpr.out]; exact List.prefix_refl _)
      have hix : Lib.indexByte x 44 = -1 := indexByte_none x 44 hnx
      have hs' : wr.cell? ⟨sb, 0, none⟩ = some (.string ⟨x.toArray⟩) := hs
      have Hix := Lib.hid hix; clear hix
      have HR := Lib.hid hR; clear hR
      clear hs hnx
      gi_wp2_with fail
      refine ⟨trivial, ?_⟩
      refine (callsIn_wide.2 (Tryz.strings_Index_one _ _ _)).mono ?_
      rintro e w1 ⟨rfl, rfl⟩
      simp only [List.toList_toArray, Hix.out]
      gi_wp2_with fail
      refine HR.out.mono ?_
      rintro e w2 ⟨rfl, hK2, _⟩
      gi_wp2_with fail
      go_end0
      exact ⟨⟨_, rfl⟩, by rw [Hpr.out]; exact hK2⟩
    | cons y rest =>
      have hpre2 : pre ++ [x] <+: parts := by rw [Hpr.out]; exact ⟨y :: rest, by simp⟩
      obtain ⟨fn, tmps, assign, body, hy, hR⟩ := hY pre x wr hK hpre2
      clear hpre2
      have hix := indexByte_here x (joinC 44 (y :: rest)) 44 hnx
      generalize hT : (⟨(joinC 44 (x :: y :: rest)).toArray⟩ : ByteArray) = T at hs
      have hTl : T.data.toList = x ++ 44 :: joinC 44 (y :: rest) := by rw [← hT]; simp [joinC_cons]
      have hx1 := extract_fst T x _ hTl
      have hx2 : T.extract (x.length + 1) T.size = ⟨(joinC 44 (y :: rest)).toArray⟩ := by
        have := extract_snd T (x ++ [44]) (joinC 44 (y :: rest)) (by rw [hTl]; simp)
        simpa using this
      have hTs : T.size = x.length + 1 + (joinC 44 (y :: rest)).length := by rw [size_bytes, hTl]; simp; omega
      have hTb : T.size ≤ 2000 := by rw [hTs]; rw [joinC_cons] at hlen; simp at hlen; omega
      have hJb : (joinC 44 (y :: rest)).length ≤ 2000 := by omega
      have hJl : (joinC 44 (y :: rest)).length < T.size := by omega
      rw [← hx1] at hy
      have hlx : x.length + 1 ≤ T.size := by omega
      have hixT : Lib.indexByte T.data.toList 44 = (x.length : Int) := by rw [hTl]; exact hix
      have Hix := Lib.hid hixT; clear hixT hix
      have Hx1 := Lib.hid hx1; clear hx1
      have Hx2 := Lib.hid hx2; clear hx2
      have HTs := Lib.hid hTs; clear hTs
      have HR := Lib.hid hR; clear hR
      clear hTl hT hnx hr
      gi_wp2_with fail
      refine ⟨trivial, ?_⟩
      refine (callsIn_wide.2 (Tryz.strings_Index_one _ _ _)).mono ?_
      rintro e w1 ⟨rfl, rfl⟩
      simp only [Hix.out]
      gi_wp2_with fail
      refine HR.out.mono ?_
      rintro e w2 ⟨rfl, hK2, hk⟩
      have hs2 : w2.cell? ⟨sb, 0, none⟩ = some (.string T) := (World.cell?_of_block (w := w1) (hk sb hlt.1 hgb.1)).trans hs
      have hp2 : w2.cell? ⟨pb, 0, none⟩ = some (.string ⟨#[44]⟩) := (World.cell?_of_block (w := w1) (hk pb hlt.2.1 hgb.2.1)).trans hp
      have hv2 : w2.cell? ⟨vb, 0, none⟩ = some (.int .i64 0) := (World.cell?_of_block (w := w1) (hk vb hlt.2.2 hgb.2.2)).trans hv
      have hsf2 : w2.frozen? ⟨sb, 0, none⟩ = false := (World.frozen?_of_block (w := w1) (hk sb hlt.1 hgb.1)).trans hsf
      have hml : leftOf sb (w2.setCell ⟨sb, 0, none⟩ (.string ⟨(joinC 44 (y :: rest)).toArray⟩)) < leftOf sb w1 := by
        rw [leftOf_eq (World.cell?_setCell_same _ _ _ hs2), leftOf_eq hs, size_bytes]
        simpa using hJl
      have hrel2 : SeqRel H gb sb pb vb parts K W (w2.setCell ⟨sb, 0, none⟩ (.string ⟨(joinC 44 (y :: rest)).toArray⟩)) :=
        ⟨pre ++ [x], y :: rest, by rw [Hpr.out]; simp, by simp, World.cell?_setCell_same _ _ _ hs2, by rw [World.frozen?_setCell]; exact hsf2,
          (World.cell?_setCell_other _ _ _ _ (fun e => hne.1 (Addr.mk.inj e).1.symm)).trans hp2, (World.cell?_setCell_other _ _ _ _ (fun e => hne.2 (Addr.mk.inj e).1.symm)).trans hv2, hJb, hKs _ _ _ hK2⟩
      rw [← Hx2.out] at hml hrel2
      have Hm := Lib.hid hml; clear hml
      clear hs hp hv hsf hy hK hK2 hk
      gi_wp2_with fail
      go_roundw
      case rel => exact hrel2
      case measure => exact Hm.out

end Go.Proofs.YtjamgkcmpcnfpaaGreatDoor
