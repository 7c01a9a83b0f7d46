/-
  The parser's 'while', at the two tests that the walks meet.
  The parser's tokens: atom, small, name, tag; said of lists of bytes.
  strings.SplitSeq at a separator of one byte: its iterator hands out the pieces, in order.
  'small': a text in small letters; and the parser's 'name', which uses it.
-/
import Derived.Test.YtjamgkcmpcnfpaaGreatDoorS01
import Derived.Lib.ConvBytes
import Derived.Lib.AtoiErrMem
import Derived.Laws.BytesArg
set_option linter.unusedVariables false
set_option linter.unusedSimpArgs false

namespace Go.Proofs.YtjamgkcmpcnfpaaGreatDoor
open Go.RowKit

/-- The byte at a place, as a number; 0 beyond the end. -/
def byteAt (t : ByteArray) (j : Nat) : Int := ((t.data.toList.getD j 0).toNat : Int)

theorem byteAt_of (t : ByteArray) (j : Nat) (h : j < t.size) : byteAt t j = (t[j].toNat : Int) := by
  have h' : j < t.data.toList.length := by simpa using h
  unfold byteAt
  rw [List.getD_eq_getElem?_getD, List.getElem?_eq_getElem h']
  rfl

set_option maxHeartbeats 1000000 in
theorem while_name (g : Nat) (t : ByteArray) (rv kv : Value) (w : World) (k : Nat) (hA : At g w t rv kv) (hs : t.size ≤ 9223372036854775807) (hk : k ≤ t.size) (hpos : 0 < k)
    (hyes : ∀ j, j < k → nameB (byteAt t j) = true) (hno : k < t.size → nameB (byteAt t k) = false) :
    Calls Tryz.prog 77 #[PP g, .func (.func 78) #[] #[]] w fun e w' => e = .returned (.string (t.extract 0 k)) ∧
      At g w' (t.extract k t.size) rv kv ∧ Kept g w w' := by
  have h0 := hA.c0
  have h0f := hA.f0
  have Hyes := Lib.hid hyes; clear hyes
  have Hno := Lib.hid hno; clear hno
  go_enter Tryz.func77, Tryz.ntmps77
  go_wp2_with fail
  go_loop [5] (fun n => ∃ j : Nat, j ≤ k ∧ n = .int .i64 j) (fun n => t.size - (intOf n).toNat)
  case atStart => exact ⟨0, by omega, rfl⟩
  case round =>
    obtain ⟨j, hj, rfl⟩ := hrel
    by_cases hlt : j < t.size
    · by_cases hjk : j < k
      · have hT : nameB (t[j].toNat : Int) = true := by rw [← byteAt_of t j hlt]; exact Hyes.out j hjk
        have HT := Lib.hid hT; clear hT
        go_wp2_with fail
        refine (name1_any _ _).mono ?_
        rintro e w1 ⟨rfl, rfl⟩
        rw [HT.out]
        go_wp2_with fail
        go_round
        case rel => exact ⟨j + 1, by omega, by go_num⟩
        case measure => simp [intOf]; omega
      · have hjk' : j = k := by omega
        subst hjk'
        have hT : nameB (t[j].toNat : Int) = false := by rw [← byteAt_of t j hlt]; exact Hno.out hlt
        have HT := Lib.hid hT; clear hT
        go_wp2_with fail
        refine (name1_any _ _).mono ?_
        rintro e w1 ⟨rfl, rfl⟩
        rw [HT.out]
        have hb : decide ((0 : Int) < (j : Int)) = true := by simp; omega
        go_wp2_with fail
        refine (must_yes _).mono ?_
        rintro e w2 ⟨rfl, rfl⟩
        go_wp2_with fail
        go_ret
        exact ⟨rfl, hA.set0 _, (Kept.refl _ _).setg 0 _⟩
    · have hjk' : j = k := by omega
      subst hjk'
      have hb : decide ((0 : Int) < (j : Int)) = true := by simp; omega
      go_wp2_with fail
      refine (must_yes _).mono ?_
      rintro e w2 ⟨rfl, rfl⟩
      go_wp2_with fail
      go_ret
      exact ⟨rfl, hA.set0 _, (Kept.refl _ _).setg 0 _⟩

set_option maxHeartbeats 1000000 in
theorem while_atom (g : Nat) (t : ByteArray) (rv kv : Value) (w : World) (b : Nat) (more : ByteArray) (k : Nat) (hA : At g w t rv kv) (hb0 : w.cell? ⟨b, 0, none⟩ = some (.string more)) (hs : t.size ≤ 9223372036854775807) (hk : k ≤ t.size) (hpos : 0 < k)
    (hyes : ∀ j, j < k → atomOr more.data.toList (byteAt t j) = true) (hno : k < t.size → atomOr more.data.toList (byteAt t k) = false) :
    Calls Tryz.prog 77 #[PP g, .func (.func 90) #[] #[.pointer (some ⟨b, 0, none⟩)]] w fun e w' => e = .returned (.string (t.extract 0 k)) ∧
      At g w' (t.extract k t.size) rv kv ∧ Kept g w w' := by
  have h0 := hA.c0
  have h0f := hA.f0
  have Hyes := Lib.hid hyes; clear hyes
  have Hno := Lib.hid hno; clear hno
  go_enter Tryz.func77, Tryz.ntmps77
  go_wp2_with fail
  go_loop [5] (fun n => ∃ j : Nat, j ≤ k ∧ n = .int .i64 j) (fun n => t.size - (intOf n).toNat)
  case atStart => exact ⟨0, by omega, rfl⟩
  case round =>
    obtain ⟨j, hj, rfl⟩ := hrel
    by_cases hlt : j < t.size
    · by_cases hjk : j < k
      · have hT : atomOr more.data.toList (t[j].toNat : Int) = true := by rw [← byteAt_of t j hlt]; exact Hyes.out j hjk
        have HT := Lib.hid hT; clear hT
        go_wp2_with fail
        refine (atom1_any _ _ _ _ hb0).mono ?_
        rintro e w1 ⟨rfl, rfl⟩
        rw [HT.out]
        go_wp2_with fail
        go_round
        case rel => exact ⟨j + 1, by omega, by go_num⟩
        case measure => simp [intOf]; omega
      · have hjk' : j = k := by omega
        subst hjk'
        have hT : atomOr more.data.toList (t[j].toNat : Int) = false := by rw [← byteAt_of t j hlt]; exact Hno.out hlt
        have HT := Lib.hid hT; clear hT
        go_wp2_with fail
        refine (atom1_any _ _ _ _ hb0).mono ?_
        rintro e w1 ⟨rfl, rfl⟩
        rw [HT.out]
        have hb : decide ((0 : Int) < (j : Int)) = true := by simp; omega
        go_wp2_with fail
        refine (must_yes _).mono ?_
        rintro e w2 ⟨rfl, rfl⟩
        go_wp2_with fail
        go_ret
        exact ⟨rfl, hA.set0 _, (Kept.refl _ _).setg 0 _⟩
    · have hjk' : j = k := by omega
      subst hjk'
      have hb : decide ((0 : Int) < (j : Int)) = true := by simp; omega
      go_wp2_with fail
      refine (must_yes _).mono ?_
      rintro e w2 ⟨rfl, rfl⟩
      go_wp2_with fail
      go_ret
      exact ⟨rfl, hA.set0 _, (Kept.refl _ _).setg 0 _⟩

end Go.Proofs.YtjamgkcmpcnfpaaGreatDoor

namespace Go.Proofs.YtjamgkcmpcnfpaaGreatDoor
open Go.RowKit

theorem ext_bytes {a b : ByteArray} (h : a.data.toList = b.data.toList) : a = b := by
  cases a; cases b; congr; exact Array.toList_inj.1 h

theorem size_bytes (t : ByteArray) : t.size = t.data.toList.length := by show t.data.size = _; exact Array.length_toList.symm

theorem extract_fst (t : ByteArray) (a b : List UInt8) (h : t.data.toList = a ++ b) : t.extract 0 a.length = ⟨a.toArray⟩ := by
  apply ext_bytes
  simp [h]

theorem extract_snd (t : ByteArray) (a b : List UInt8) (h : t.data.toList = a ++ b) : t.extract a.length t.size = ⟨b.toArray⟩ := by
  apply ext_bytes
  rw [size_bytes]
  simp [h]

theorem byteAt_list (t : ByteArray) (l : List UInt8) (h : t.data.toList = l) (j : Nat) : byteAt t j = ((l.getD j 0).toNat : Int) := by
  unfold byteAt; rw [h]

/-- All bytes pass the test. -/
def allB (T : Int → Bool) (l : List UInt8) : Bool := l.all fun c => T (c.toNat : Int)
/-- The first byte, if any, does not pass. -/
def stopB (T : Int → Bool) (l : List UInt8) : Bool := match l with | [] => true | c :: _ => !T (c.toNat : Int)

theorem allB_at {T : Int → Bool} {t : ByteArray} {a b : List UInt8} (h : t.data.toList = a ++ b) (ha : allB T a = true) : ∀ j, j < a.length → T (byteAt t j) = true := by
  intro j hj
  rw [byteAt_list t _ h]
  have : (a ++ b).getD j 0 = a[j] := by simp [List.getD_eq_getElem?_getD, List.getElem?_append_left hj, List.getElem?_eq_getElem hj]
  rw [this]
  unfold allB at ha
  rw [List.all_eq_true] at ha
  exact ha _ (List.getElem_mem hj)

theorem stopB_at {T : Int → Bool} {t : ByteArray} {a b : List UInt8} (h : t.data.toList = a ++ b) (hb : stopB T b = true) : a.length < t.size → T (byteAt t a.length) = false := by
  intro hlt
  rw [byteAt_list t _ h]
  rw [size_bytes, h, List.length_append] at hlt
  cases b with
  | nil => simp at hlt
  | cons c r =>
    have : (a ++ c :: r).getD a.length 0 = c := by simp [List.getD_eq_getElem?_getD]
    rw [this]
    simpa [stopB] using hb

set_option maxHeartbeats 400000 in
theorem atom_any (g : Nat) (t more : ByteArray) (a b : List UInt8) (rv kv : Value) (w : World) (hA : At g w t rv kv) (ht : t.data.toList = a ++ b) (hs : t.size ≤ 9223372036854775807) (hpos : a ≠ [])
    (ha : allB (atomOr more.data.toList) a = true) (hb : stopB (atomOr more.data.toList) b = true) :
    Calls Tryz.prog 57 #[PP g, .string more] w fun e w' => e = .returned (.string ⟨a.toArray⟩) ∧ At g w' ⟨b.toArray⟩ rv kv ∧ Kept g w w' := by
  have hc := while_atom g t rv kv (w.alloc (.cells #[.string more] 9)) w.heap.size more a.length (hA.alloc _) (by simp) hs (by rw [size_bytes, ht]; simp) (List.length_pos_iff.2 hpos) (allB_at ht ha) (stopB_at ht hb)
  rw [extract_fst t a b ht, extract_snd t a b ht] at hc
  have Hc := Lib.hid hc; clear hc
  have Ht := Lib.hid ht; clear ht ha hb hpos
  have hmf : ∀ (fn : Fn) (first cap : Array Value) (w : World), (Instr.makeFunc fn first cap).run Tryz.prog w = .ok (.func fn first cap) w := fun _ _ _ _ => rfl
  go_enter Tryz.func57, Tryz.ntmps57
  go_wp2_with fail
  refine Hc.out.mono ?_
  rintro e w1 ⟨rfl, hA1, hK1⟩
  go_wp2_with fail
  go_ret
  exact ⟨rfl, hA1, ((Kept.refl _ _).alloc _).trans hK1⟩

end Go.Proofs.YtjamgkcmpcnfpaaGreatDoor

namespace Go.Proofs.YtjamgkcmpcnfpaaGreatDoor
open Go.RowKit

attribute [local go_sem] Oper.semAt_some

/-- Pieces with a byte between them. -/
def joinC (c : UInt8) : List (List UInt8) → List UInt8
  | [] => []
  | [s] => s
  | s :: r => s ++ c :: joinC c r

theorem joinC_cons (c : UInt8) (s t : List UInt8) (r : List (List UInt8)) : joinC c (s :: t :: r) = s ++ c :: joinC c (t :: r) := rfl

theorem indexByte_none (l : List UInt8) (c : UInt8) (h : c ∉ l) : Lib.indexByte l c = -1 := by
  induction l with
  | nil => rfl
  | cons b l ih =>
    have hb : ¬ b = c := fun e => h (by simp [e])
    have hl := ih (fun e => h (by simp [e]))
    unfold Lib.indexByte
    rw [hl]
    simp [hb]

theorem indexByte_here (l r : List UInt8) (c : UInt8) (h : c ∉ l) : Lib.indexByte (l ++ c :: r) c = l.length := by
  induction l with
  | nil => simp [Lib.indexByte]
  | cons b l ih =>
    have hb : ¬ b = c := fun e => h (by simp [e])
    have hl := ih (fun e => h (by simp [e]))
    rw [List.cons_append]
    unfold Lib.indexByte
    rw [hl]
    have h1 : ((l.length : Int) == -1) = false := by rw [beq_eq_false_iff_ne]; omega
    simp [hb, h1]

set_option maxHeartbeats 1000000 in
theorem SplitSeq_any (s sep : ByteArray) (w : World) :
    Calls Tryz.prog 138 #[.string s, .string sep] w fun e w' => e = .returned (.func (.func 207) #[] #[.pointer (some ⟨w.heap.size + 1, 0, none⟩), .pointer (some ⟨w.heap.size, 0, none⟩), .pointer (some ⟨w.heap.size + 2, 0, none⟩)]) ∧
      w' = ((w.alloc (.cells #[.string s] 9)).alloc (.cells #[.string sep] 9)).alloc (.cells #[.int .i64 0] 3) := by
  have hmf : ∀ (fn : Fn) (first cap : Array Value) (w : World), (Instr.makeFunc fn first cap).run Tryz.prog w = .ok (.func fn first cap) w := fun _ _ _ _ => rfl
  go_enter Tryz.func138, Tryz.ntmps138
  go_wp2
  go_ret
  exact ⟨rfl, rfl⟩

/-- The bytes that the iterator still has. -/
def leftOf (sb : Nat) (w : World) : Nat := match w.cell? ⟨sb, 0, none⟩ with | some (.string s) => s.size | _ => 0

theorem leftOf_eq {sb : Nat} {w : World} {s : ByteArray} (h : w.cell? ⟨sb, 0, none⟩ = some (.string s)) : leftOf sb w = s.size := by unfold leftOf; rw [h]

/-- Between two rounds: 'pre' was handed out, 'rest' is left. -/
def SeqRel (H gb sb pb vb : Nat) (parts : List (List UInt8)) (K : List (List UInt8) → World → Prop) (W wr : World) : Prop :=
  ∃ pre rest, parts = pre ++ rest ∧ rest ≠ [] ∧ wr.cell? ⟨sb, 0, none⟩ = some (.string ⟨(joinC 44 rest).toArray⟩) ∧ wr.frozen? ⟨sb, 0, none⟩ = false ∧
    wr.cell? ⟨pb, 0, none⟩ = some (.string ⟨#[44]⟩) ∧ wr.cell? ⟨vb, 0, none⟩ = some (.int .i64 0) ∧ (joinC 44 rest).length ≤ 2000 ∧ K pre wr

set_option maxHeartbeats 4000000 in
set_option maxRecDepth 100000 in
theorem splitSeq1_in (m : Nat) (hm : 1 ≤ m) (l H gb sb pb vb : Nat) (parts : List (List UInt8)) (K : List (List UInt8) → World → Prop) (W : World)
    (hlt : sb < H ∧ pb < H ∧ vb < H) (hgb : sb ≠ gb ∧ pb ≠ gb ∧ vb ≠ gb) (hne : pb ≠ sb ∧ vb ≠ sb)
    (hKs : ∀ pre X u, K pre X → K pre (X.setCell ⟨sb, 0, none⟩ u))
    (hY : ∀ pre x X, K pre X → pre ++ [x] <+: parts → YieldAt Fence.wide (m - 1) Tryz.prog l #[.string ⟨x.toArray⟩] X fun e X' => e = .returned (.bool true) ∧ K (pre ++ [x]) X' ∧ KeptTo H gb X X')
    (hs : W.cell? ⟨sb, 0, none⟩ = some (.string ⟨(joinC 44 parts).toArray⟩)) (hsf : W.frozen? ⟨sb, 0, none⟩ = false) (hp : W.cell? ⟨pb, 0, none⟩ = some (.string ⟨#[44]⟩)) (hv : W.cell? ⟨vb, 0, none⟩ = some (.int .i64 0))
    (hparts : parts ≠ []) (hno : ∀ x ∈ parts, (44 : UInt8) ∉ x) (hsz : (joinC 44 parts).length ≤ 2000) (h0 : K [] W) :
    CallsIn Fence.wide m Tryz.prog 207 #[.func (.yield l) #[] #[], .pointer (some ⟨pb, 0, none⟩), .pointer (some ⟨sb, 0, none⟩), .pointer (some ⟨vb, 0, none⟩)] W fun e X' => (∃ v, e = .returned v) ∧ K parts X' := by
  refine callsIn_of_wp Tryz.func207 rfl trivial ?_ rfl
  simp only [Tryz.ntmps207, List.size_toArray, List.length_cons, List.length_nil, Nat.reduceAdd, Nat.reduceSub, Array.replicate_succ, Array.replicate_zero, List.push_toArray, List.append_toArray, List.nil_append, List.cons_append]
  gi_wp2_with fail
  have hstart : SeqRel H gb sb pb vb parts K W W := ⟨[], parts, rfl, hparts, hs, hsf, hp, hv, hsz, h0⟩
  clear hs hsf hp hv h0
  gi_loopw [] (fun wr => SeqRel H gb sb pb vb parts K W wr) (fun wr => leftOf sb wr)
  case atStart => exact hstart
  case round =>
    obtain ⟨pre, rest, hpr, hr, hs, hsf, hp, hv, hlen, hK⟩ := hrel
    obtain ⟨x, rest, rfl⟩ : ∃ x r, rest = x :: r := by cases rest with | nil => exact absurd rfl hr | cons x r => exact ⟨x, r, rfl⟩
    have hnx : (44 : UInt8) ∉ x := hno x (by rw [hpr]; simp)
    have Hpr := Lib.hid hpr; clear hpr
    have Hno := Lib.hid hno; clear hno
    cases rest with
    | nil =>
      obtain ⟨fn, tmps, assign, body, hy, hR⟩ := hY pre x wr hK (by rw [Hpr.out]; exact List.prefix_refl _)
      have hix : Lib.indexByte x 44 = -1 := indexByte_none x 44 hnx
      have hs' : wr.cell? ⟨sb, 0, none⟩ = some (.string ⟨x.toArray⟩) := hs
      have Hix := Lib.hid hix; clear hix
      have HR := Lib.hid hR; clear hR
      clear hs hnx
      gi_wp2_with fail
      refine ⟨trivial, ?_⟩
      refine (callsIn_wide.2 (Tryz.strings_Index_one _ _ _)).mono ?_
      rintro e w1 ⟨rfl, rfl⟩
      simp only [List.toList_toArray, Hix.out]
      gi_wp2_with fail
      refine HR.out.mono ?_
      rintro e w2 ⟨rfl, hK2, _⟩
      gi_wp2_with fail
      go_end0
      exact ⟨⟨_, rfl⟩, by rw [Hpr.out]; exact hK2⟩
    | cons y rest =>
      have hpre2 : pre ++ [x] <+: parts := by rw [Hpr.out]; exact ⟨y :: rest, by simp⟩
      obtain ⟨fn, tmps, assign, body, hy, hR⟩ := hY pre x wr hK hpre2
      clear hpre2
      have hix := indexByte_here x (joinC 44 (y :: rest)) 44 hnx
      generalize hT : (⟨(joinC 44 (x :: y :: rest)).toArray⟩ : ByteArray) = T at hs
      have hTl : T.data.toList = x ++ 44 :: joinC 44 (y :: rest) := by rw [← hT]; simp [joinC_cons]
      have hx1 := extract_fst T x _ hTl
      have hx2 : T.extract (x.length + 1) T.size = ⟨(joinC 44 (y :: rest)).toArray⟩ := by
        have := extract_snd T (x ++ [44]) (joinC 44 (y :: rest)) (by rw [hTl]; simp)
        simpa using this
      have hTs : T.size = x.length + 1 + (joinC 44 (y :: rest)).length := by rw [size_bytes, hTl]; simp; omega
      have hTb : T.size ≤ 2000 := by rw [hTs]; rw [joinC_cons] at hlen; simp at hlen; omega
      have hJb : (joinC 44 (y :: rest)).length ≤ 2000 := by omega
      have hJl : (joinC 44 (y :: rest)).length < T.size := by omega
      rw [← hx1] at hy
      have hlx : x.length + 1 ≤ T.size := by omega
      have hixT : Lib.indexByte T.data.toList 44 = (x.length : Int) := by rw [hTl]; exact hix
      have Hix := Lib.hid hixT; clear hixT hix
      have Hx1 := Lib.hid hx1; clear hx1
      have Hx2 := Lib.hid hx2; clear hx2
      have HTs := Lib.hid hTs; clear hTs
      have HR := Lib.hid hR; clear hR
      clear hTl hT hnx hr
      gi_wp2_with fail
      refine ⟨trivial, ?_⟩
      refine (callsIn_wide.2 (Tryz.strings_Index_one _ _ _)).mono ?_
      rintro e w1 ⟨rfl, rfl⟩
      simp only [Hix.out]
      gi_wp2_with fail
      refine HR.out.mono ?_
      rintro e w2 ⟨rfl, hK2, hk⟩
      have hs2 : w2.cell? ⟨sb, 0, none⟩ = some (.string T) := (World.cell?_of_block (w := w1) (hk sb hlt.1 hgb.1)).trans hs
      have hp2 : w2.cell? ⟨pb, 0, none⟩ = some (.string ⟨#[44]⟩) := (World.cell?_of_block (w := w1) (hk pb hlt.2.1 hgb.2.1)).trans hp
      have hv2 : w2.cell? ⟨vb, 0, none⟩ = some (.int .i64 0) := (World.cell?_of_block (w := w1) (hk vb hlt.2.2 hgb.2.2)).trans hv
      have hsf2 : w2.frozen? ⟨sb, 0, none⟩ = false := (World.frozen?_of_block (w := w1) (hk sb hlt.1 hgb.1)).trans hsf
      have hml : leftOf sb (w2.setCell ⟨sb, 0, none⟩ (.string ⟨(joinC 44 (y :: rest)).toArray⟩)) < leftOf sb w1 := by
        rw [leftOf_eq (World.cell?_setCell_same _ _ _ hs2), leftOf_eq hs, size_bytes]
        simpa using hJl
      have hrel2 : SeqRel H gb sb pb vb parts K W (w2.setCell ⟨sb, 0, none⟩ (.string ⟨(joinC 44 (y :: rest)).toArray⟩)) :=
        ⟨pre ++ [x], y :: rest, by rw [Hpr.out]; simp, by simp, World.cell?_setCell_same _ _ _ hs2, by rw [World.frozen?_setCell]; exact hsf2,
          (World.cell?_setCell_other _ _ _ _ (fun e => hne.1 (Addr.mk.inj e).1.symm)).trans hp2, (World.cell?_setCell_other _ _ _ _ (fun e => hne.2 (Addr.mk.inj e).1.symm)).trans hv2, hJb, hKs _ _ _ hK2⟩
      rw [← Hx2.out] at hml hrel2
      have Hm := Lib.hid hml; clear hml
      clear hs hp hv hsf hy hK hK2 hk
      gi_wp2_with fail
      go_roundw
      case rel => exact hrel2
      case measure => exact Hm.out

end Go.Proofs.YtjamgkcmpcnfpaaGreatDoor

namespace Go.Proofs.YtjamgkcmpcnfpaaGreatDoor
open Go.RowKit

def lowC (c : Int) : Int := if 65 ≤ c ∧ c ≤ 90 then c + 32 else c
def smallL (l : List UInt8) : List UInt8 := l.map fun c => UInt8.ofNat (lowC (c.toNat : Int)).toNat

theorem byteAt_lt (t : ByteArray) (j : Nat) : 0 ≤ byteAt t j ∧ byteAt t j < 256 := by
  unfold byteAt
  have := (t.data.toList.getD j 0).toNat_lt
  omega

theorem lowC_eq (c : Int) (h1 : 65 ≤ c) (h2 : c ≤ 90) : lowC c = c + 97 - 65 := by unfold lowC; rw [if_pos ⟨h1, h2⟩]; omega
theorem lowC_lo (c : Int) (h1 : c < 65) : lowC c = c := by unfold lowC; rw [if_neg (by omega)]
theorem lowC_hi (c : Int) (h1 : 90 < c) : lowC c = c := by unfold lowC; rw [if_neg (by omega)]

/-- After k rounds: the row's first k bytes are small. -/
def SmallRel (s : ByteArray) (w : World) (k : Nat) (wr : World) : Prop :=
  Below w.heap.size w wr ∧ w.heap.size < wr.heap.size ∧
    ∀ j, j < s.size → wr.cell? ⟨w.heap.size, j, none⟩ = some (.int .u8 (if j < k then lowC (byteAt s j) else byteAt s j)) ∧ wr.frozen? ⟨w.heap.size, j, none⟩ = false

theorem SmallRel.start (s : ByteArray) (w : World) : SmallRel s w 0 (Lib.bytesWorld w 5 s) := by
  refine ⟨Lib.bytesWorld_below w 5 s, by rw [Lib.bytesWorld_size]; omega, fun j hj => ⟨?_, ?_⟩⟩
  · rw [Lib.bytesWorld_cell w 5 s j hj, if_neg (by omega)]; rfl
  · have h := Lib.bytesWorld_at_new w 5 s
    unfold World.frozen?
    rw [h]
    simp [Lib.bytesCells]
    omega

theorem SmallRel.store {s : ByteArray} {w wr : World} {k : Nat} (h : SmallRel s w k wr) (hk : k < s.size) (v : Int) (hv : v = lowC (byteAt s k)) : SmallRel s w (k + 1) (wr.setCell ⟨w.heap.size, k, none⟩ (.int .u8 v)) := by
  obtain ⟨hB, hz, hc⟩ := h
  refine ⟨hB.setCell (p := ⟨w.heap.size, k, none⟩) (Nat.le_refl _) _, by simpa [World.setCell] using hz, fun j hj => ⟨?_, ?_⟩⟩
  · by_cases e : j = k
    · subst e
      rw [World.cell?_setCell_same _ _ _ (hc j hj).1, hv, if_pos (by omega)]
    · rw [World.cell?_setCell_other _ _ _ _ (fun e2 => e (Addr.mk.inj e2).2.1.symm), (hc j hj).1]
      congr 2
      by_cases l : j < k
      · rw [if_pos l, if_pos (by omega)]
      · rw [if_neg l, if_neg (by omega)]
  · rw [World.frozen?_setCell]; exact (hc j hj).2

theorem SmallRel.skip {s : ByteArray} {w wr : World} {k : Nat} (h : SmallRel s w k wr) (hv : byteAt s k = lowC (byteAt s k)) : SmallRel s w (k + 1) wr := by
  obtain ⟨hB, hz, hc⟩ := h
  refine ⟨hB, hz, fun j hj => ⟨?_, (hc j hj).2⟩⟩
  rw [(hc j hj).1]
  congr 2
  by_cases e : j = k
  · subst e; rw [if_neg (by omega), if_pos (by omega)]; exact hv
  · by_cases l : j < k
    · rw [if_pos l, if_pos (by omega)]
    · rw [if_neg l, if_neg (by omega)]

theorem SmallRel.string {s : ByteArray} {w wr : World} (h : SmallRel s w s.size wr) (cap : Nat) :
    (convert 35 9 (.slice (some ⟨w.heap.size, 0, none⟩) s.size cap)).run Tryz.prog wr = .ok (.string ⟨(smallL s.data.toList).toArray⟩) wr := by
  have := run_convert_bytes_arg (P := Tryz.prog) wr 35 5 Tryz.underlying35 Tryz.underlying5 w.heap.size 0 s.size cap (s.data.toList.map fun c => lowC (c.toNat : Int)) (by rw [List.length_map, size_bytes]) (fun i hi => by
    rw [Nat.zero_add, (h.2.2 i hi).1, if_pos hi]
    rw [size_bytes] at hi
    simp only [byteAt, List.getD_eq_getElem?_getD, List.getElem?_map, List.getElem?_eq_getElem hi]
    rfl) 9 Tryz.underlying9
  rw [this]
  simp [strOfNums, smallL]

set_option maxHeartbeats 2000000 in
theorem small_any (s : ByteArray) (w : World) (hs : s.size ≤ 9223372036854775807) :
    Calls Tryz.prog 76 #[.string s] w fun e w' => e = .returned (.string ⟨(smallL s.data.toList).toArray⟩) ∧ Below w.heap.size w w' := by
  have hconv := fun w : World => Lib.run_convert_string_bytes (P := Tryz.prog) w 9 35 5 s Tryz.underlying9 Tryz.underlying35 Tryz.underlying5
  go_enter Tryz.func76, Tryz.ntmps76
  go_wp2_with fail
  clear hconv
  go_loopw [10] (fun i wr => ∃ k : Nat, k ≤ s.size ∧ i = .int .i64 k ∧ SmallRel s w k wr)
    (fun i _ => s.size - (intOf i).toNat)
  case atStart => exact ⟨0, by omega, rfl, SmallRel.start s w⟩
  case round =>
    obtain ⟨k, hk, rfl, hR⟩ := hrel
    by_cases hlt : k < s.size
    · have hc0 : wr.cell? ⟨w.heap.size, k, none⟩ = some (.int .u8 (byteAt s k)) := by have := (hR.2.2 k hlt).1; rwa [if_neg (by omega)] at this
      have hf0 := (hR.2.2 k hlt).2
      have hb := byteAt_lt s k
      have hb1 := hb.1
      have hb2 := hb.2
      clear hb
      have hst := hR.store hlt
      have hsk := hR.skip
      clear hR
      generalize byteAt s k = c at *
      by_cases h1 : 65 ≤ c
      · by_cases h2 : c ≤ 90
        · have hR' := hst (c + 97 - 65) (lowC_eq c h1 h2).symm
          clear hst hsk
          go_wp2_with fail
          go_roundw
          case rel => exact ⟨k + 1, by omega, by go_num, hR'⟩
          case measure => simp [intOf]; omega
        · have hR' := hsk (lowC_hi c (by omega)).symm
          clear hst hsk
          go_wp2_with fail
          go_roundw
          case rel => exact ⟨k + 1, by omega, by go_num, hR'⟩
          case measure => simp [intOf]; omega
      · have hR' := hsk (lowC_lo c (by omega)).symm
        clear hst hsk
        go_wp2_with fail
        go_roundw
        case rel => exact ⟨k + 1, by omega, by go_num, hR'⟩
        case measure => simp [intOf]; omega
    · have e : k = s.size := by omega
      subst e
      have hS := fun cap => hR.string cap
      have hB := hR.1
      clear hR
      go_wp2_with fail
      go_ret
      exact ⟨rfl, hB⟩

end Go.Proofs.YtjamgkcmpcnfpaaGreatDoor
