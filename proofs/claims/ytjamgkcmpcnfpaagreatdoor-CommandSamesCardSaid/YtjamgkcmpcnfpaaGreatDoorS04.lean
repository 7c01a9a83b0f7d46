/-
  Package name: odd, formed, Clean, walked at names that are taken.
  A Builder's WriteByte over this program (the shelf's texts, turned to this dump), and a builder while another block is written.
  The parser's 'name' and 'tag'.
  The parser's 'quoted', at a text of plain bytes up to the quote.
-/
import Derived.Test.YtjamgkcmpcnfpaaGreatDoorS02
import Derived.Test.YtjamgkcmpcnfpaaGreatDoorS01
import Derived.Shelf.Strings.BuilderX
import Derived.Lib.Strings
import Derived.Lib.Slices
import Derived.Lib.Walk
import Derived.Lib.Builder
import Derived.Lib.AppendStr
import Derived.Lib.UnsafeStr
import Derived.Lib.MakeNoZero
import Derived.Laws.Externs
import Derived.Laws.IdiomCopy
import Derived.Laws.BitsLemmas
import Derived.Deep.LoopGhost
set_option linter.unusedVariables false
set_option linter.unusedSimpArgs false

namespace Go.Proofs.YtjamgkcmpcnfpaaGreatDoor
open Go.RowKit

def oddB (c : Int) : Bool := decide (c ≤ 32) || decide (126 < c) || decide (0 ≤ Lib.indexByte [40, 41, 123, 37, 42, 34, 92] c.toNat.toUInt8)

set_option maxHeartbeats 400000 in
theorem odd_any (c : Int) (w : World) :
    Calls Tryz.prog 148 #[.int .u8 c] w fun e w' => e = .returned (.bool (oddB c)) ∧ w = w' := by
  by_cases h1 : c ≤ 32
  · go_enter Tryz.func148, Tryz.ntmps148
    go_wp2_with (go_at_call 92; refine (Tryz.strings_IndexByte _ _ _).mono ?_; rintro e w' ⟨rfl, rfl⟩)
    go_ret
    exact ⟨by simp [oddB, h1], rfl⟩
  · by_cases h2 : 126 < c
    · go_enter Tryz.func148, Tryz.ntmps148
      go_wp2_with (go_at_call 92; refine (Tryz.strings_IndexByte _ _ _).mono ?_; rintro e w' ⟨rfl, rfl⟩)
      go_ret
      exact ⟨by simp [oddB, h2], rfl⟩
    · go_enter Tryz.func148, Tryz.ntmps148
      go_wp2_with (go_at_call 92; refine (Tryz.strings_IndexByte _ _ _).mono ?_; rintro e w' ⟨rfl, rfl⟩)
      go_ret
      exact ⟨by have a1 : decide (c ≤ 32) = false := by simp; omega
                have a2 : decide (126 < c) = false := by simp; omega
                simp [oddB, a1, a2], rfl⟩

set_option maxHeartbeats 1000000 in
theorem IndexFunc_odd (s : ByteArray) (b c : Nat) (w : World) (hs : s.size ≤ 9223372036854775807)
    (hc : ∀ j, j < s.size → w.cell? ⟨b, j, none⟩ = some (.int .u8 (byteAt s j))) (hodd : ∀ j, j < s.size → oddB (byteAt s j) = false) :
    Calls Tryz.prog 187 #[.slice (some ⟨b, 0, none⟩) s.size c, .func (.func 148) #[] #[]] w fun e w' => e = .returned (.int .i64 (-1)) ∧ w = w' := by
  have Hc := Lib.hid hc; clear hc
  have Ho := Lib.hid hodd; clear hodd
  go_enter Tryz.func187, Tryz.ntmps187
  go_wp2_with fail
  go_loop [8] (fun i => ∃ k : Nat, k ≤ s.size ∧ i = .int .i64 k) (fun i => s.size - (intOf i).toNat)
  case atStart => exact ⟨0, by omega, rfl⟩
  case round =>
    obtain ⟨k, hk, rfl⟩ := hrel
    by_cases hlt : k < s.size
    · have hc0 := Hc.out k hlt
      have ho := Lib.hid (Ho.out k hlt)
      go_wp2_with fail
      refine (odd_any _ _).mono ?_
      rintro e w1 ⟨rfl, rfl⟩
      rw [ho.out]
      go_wp2_with fail
      go_round
      case rel => exact ⟨k + 1, by omega, by go_num⟩
      case measure => simp [intOf]; omega
    · go_wp2_with fail
      go_ret
      exact ⟨rfl, rfl⟩

set_option maxHeartbeats 1000000 in
theorem ContainsFunc_odd (s : ByteArray) (b c : Nat) (w : World) (hs : s.size ≤ 9223372036854775807)
    (hc : ∀ j, j < s.size → w.cell? ⟨b, j, none⟩ = some (.int .u8 (byteAt s j))) (hodd : ∀ j, j < s.size → oddB (byteAt s j) = false) :
    Calls Tryz.prog 146 #[.slice (some ⟨b, 0, none⟩) s.size c, .func (.func 148) #[] #[]] w fun e w' => e = .returned (.bool false) ∧ w = w' := by
  have Hc := Lib.hid (IndexFunc_odd s b c w hs hc hodd)
  clear hc hodd
  go_enter Tryz.func146, Tryz.ntmps146
  go_wp2_with fail
  refine Hc.out.mono ?_
  rintro e w1 ⟨rfl, rfl⟩
  go_wp2_with fail
  go_ret
  exact ⟨rfl, rfl⟩

/-- What 'formed' asks of a name, in the library's words. -/
structure Formed (s : ByteArray) : Prop where
  size : s.size ≤ 40
  parts : Lib.countB s ⟨#[47]⟩ + 1 ≤ 4
  full : Lib.containsS (Lib.splitB ⟨#[47]⟩ 0 (Lib.countB s ⟨#[47]⟩) s) ⟨#[]⟩ = false
  odd : ∀ j, j < s.size → oddB (byteAt s j) = false
  len : (Lib.splitB ⟨#[47]⟩ 0 (Lib.countB s ⟨#[47]⟩) s).length = Lib.countB s ⟨#[47]⟩ + 1

/-- The pieces' cells, in the row that Split has made. -/
theorem pieces_cell (w : World) (l : List ByteArray) : ∀ j, j < l.length → (w.alloc (.cells (l.map Value.string).toArray 9)).cell? ⟨w.heap.size, 0 + j, none⟩ = some (.string (l.getD j ByteArray.empty)) := by
  intro j hj
  rw [Nat.zero_add, World.cell?_alloc_new]
  simp [List.getD_eq_getElem?_getD, List.getElem?_eq_getElem hj]

set_option maxHeartbeats 2000000 in
set_option maxRecDepth 100000 in
theorem formed_yes (s : ByteArray) (m : Int) (w : World) (hM : w.cell? ⟨4, 0, none⟩ = some (.int .i64 m)) (h : Formed s) :
    Calls Tryz.prog 141 #[.string s] w fun e w' => e = .returned (.bool true) ∧ Below w.heap.size w w' := by
  have h40 := h.size
  have h4 := h.parts
  have hS := Tryz.strings_Split s ⟨#[47]⟩ m w (by omega) hM (by decide)
  have hCt := fun (w1 : World) hc => Tryz.slices_Contains_string w.heap.size 0 (Lib.countB s ⟨#[47]⟩ + 1) (Lib.countB s ⟨#[47]⟩ + 1) (Lib.splitB ⟨#[47]⟩ 0 (Lib.countB s ⟨#[47]⟩) s) ⟨#[]⟩ w1 (by rw [h.len]; exact Nat.le_refl _) (by omega) hc
  have hCt1 := hCt _ (pieces_cell w (Lib.splitB ⟨#[47]⟩ 0 (Lib.countB s ⟨#[47]⟩) s))
  rw [List.take_of_length_le (by rw [h.len]; exact Nat.le_refl _), h.full] at hCt1
  have hconv := fun w : World => Lib.run_convert_string_bytes (P := Tryz.prog) w 9 35 5 s Tryz.underlying9 Tryz.underlying35 Tryz.underlying5
  have HS := Lib.hid hS; clear hS
  have H := Lib.hid h; clear h
  have HCt := Lib.hid hCt1; clear hCt1 hCt
  clear hM
  have h5 : decide (((Lib.countB s ⟨#[47]⟩ + 1 : Nat) : Int) ≤ 4) = true := by simp; omega
  generalize hn : Lib.countB s ⟨#[47]⟩ + 1 = n at *
  generalize hP : (Lib.splitB ⟨#[47]⟩ 0 (Lib.countB s ⟨#[47]⟩) s) = P at *
  clear hn hP
  go_enter Tryz.func141, Tryz.ntmps141
  go_wp2_with fail
  refine HS.out.mono ?_
  rintro e w1 ⟨rfl, rfl⟩
  go_wp2_with fail
  refine HCt.out.mono ?_
  rintro e w1 ⟨rfl, rfl⟩
  go_wp2_with fail
  have hb := fun j (hj : j < s.size) => Lib.bytesWorld_cell (w.alloc (.cells (P.map Value.string).toArray 9)) 5 s j hj
  simp only [World.size_alloc] at hb
  refine (ContainsFunc_odd s (w.heap.size + 1) _ _ (by omega) hb H.out.odd).mono ?_
  rintro e w1 ⟨rfl, rfl⟩
  go_wp2_with fail
  go_ret
  exact ⟨rfl, ((Below.refl _ _).alloc (Nat.le_refl _) _).trans ((Lib.bytesWorld_below _ _ _).mono (by simp))⟩

theorem ret_pair {a b : ByteArray} {v : Value} (h : a = b) : Ending.returned (.tuple #[.string a, v]) = .returned (.tuple #[.string b, v]) := by rw [h]

/-- What Clean gives. -/
def cleanL (l : List UInt8) : List UInt8 :=
  (if Lib.equalFold (Lib.cut l [47]).1 [73, 78, 66, 79, 88] then [73, 78, 66, 79, 88] else (Lib.cut l [47]).1) ++ (if (Lib.cut l [47]).2.2 then 47 :: (Lib.cut l [47]).2.1 else [])

set_option maxHeartbeats 2000000 in
set_option maxRecDepth 100000 in
theorem Clean_yes (s : ByteArray) (m : Int) (w : World) (hM : w.cell? ⟨4, 0, none⟩ = some (.int .i64 m)) (hB : 4 < w.heap.size) (h : Formed s) (hasc : ∀ (j : Nat) (b : UInt8), s.data.toList[j]? = some b → b.toNat < 128) :
    Calls Tryz.prog 108 #[.string s] w fun e w' => e = .returned (.tuple #[.string ⟨(cleanL s.data.toList).toArray⟩, .int .i64 0]) ∧ Below w.heap.size w w' := by
  have hF := formed_yes s m w hM h
  have hC := fun (w1 : World) (hb : Below w.heap.size w w1) => Tryz.strings_Cut s ⟨#[47]⟩ m w1 (by have := h.size; omega) ((hb.cell (p := ⟨4, 0, none⟩) hB).trans hM)
  have h40 := h.size
  have hasc1 : ∀ (j : Nat) (b : UInt8), (Lib.cut s.data.toList [47]).1[j]? = some b → b.toNat < 128 := by
    intro j b hj
    unfold Lib.cut at hj
    split at hj
    · simp only [List.getElem?_take] at hj
      split at hj
      · exact hasc _ _ hj
      · cases hj
    · exact hasc _ _ hj
  have hlen1 : (Lib.cut s.data.toList [47]).1.length ≤ 40 := by
    have := size_bytes s
    unfold Lib.cut
    split
    · simp; omega
    · simp; omega
  have hlen2 : (Lib.cut s.data.toList [47]).2.1.length ≤ 40 := by
    have := size_bytes s
    unfold Lib.cut
    split
    · simp; omega
    · simp
  have hcl : cleanL s.data.toList = (if Lib.equalFold (Lib.cut s.data.toList [47]).1 [73, 78, 66, 79, 88] then [73, 78, 66, 79, 88] else (Lib.cut s.data.toList [47]).1) ++ (if (Lib.cut s.data.toList [47]).2.2 then 47 :: (Lib.cut s.data.toList [47]).2.1 else []) := rfl
  have HF := Lib.hid hF; clear hF
  have HC := Lib.hid hC; clear hC
  generalize hcut : Lib.cut s.data.toList [47] = q at *
  obtain ⟨fi, re, mo⟩ := q
  simp only at hasc1 hlen1 hlen2 hcl
  have Hcut := Lib.hid hcut; clear hcut
  have hE := fun w1 => Tryz.strings_EqualFold ⟨fi.toArray⟩ ⟨#[73, 78, 66, 79, 88]⟩ w1 (by rw [size_bytes]; simp; omega) (by simpa using hasc1) (by
    intro j b hj
    have : b ∈ ([73, 78, 66, 79, 88] : List UInt8) := List.mem_of_getElem? hj
    simp at this
    rcases this with rfl | rfl | rfl | rfl | rfl <;> decide)
  have HE := Lib.hid hE; clear hE
  have Hcl := Lib.hid hcl; clear hcl
  clear hM hasc hasc1 h
  go_enter Tryz.func108, Tryz.ntmps108
  go_wp2_with fail
  refine HF.out.mono ?_
  rintro e w1 ⟨rfl, hB1⟩
  go_wp2_with fail
  refine (HC.out _ hB1).mono ?_
  rintro e w2 ⟨rfl, n, rfl⟩
  simp only [List.toList_toArray, Hcut.out]
  go_wp2_with fail
  refine (HE.out _).mono ?_
  rintro e w3 ⟨rfl, rfl⟩
  cases hef : Lib.equalFold fi [73, 78, 66, 79, 88] <;> cases mo
  all_goals
    simp only [List.toList_toArray, hef]
    have Hef := Lib.hid hef; clear hef
    go_wp2_with fail
    go_ret2
    refine ⟨?_, below_drewN hB1 n⟩
    have hc := Hcl.out
    rw [Hef.out] at hc
    simp only [Bool.false_eq_true, if_true, if_false, List.append_nil] at hc
    rw [hc]
    first | rfl | exact ret_pair (ext_bytes (by simp))

end Go.Proofs.YtjamgkcmpcnfpaaGreatDoor

namespace Go.Proofs.YtjamgkcmpcnfpaaGreatDoor
open Go.RowKit

theorem sizeBuilder : (Tryz.prog.info? 134).map (·.size) = some 2 := by kernel_rfl
theorem liesBuilder : liesAt Tryz.prog Tryz.prog.depth 134 (2 / Tryz.prog.cellsOf 134) 0 134 1 = true := by kernel_rfl
theorem infoByte : (Tryz.prog.info? 5).map (fun i => (i.zero, i.size, i.bytes)) = some (some (.int .u8 0), 1, 1) := by kernel_rfl

set_option maxHeartbeats 1000000 in
set_option maxRecDepth 100000 in
theorem copyCheck_used (b : Nat) (w : World) (h0 : w.cell? ⟨b, 0, none⟩ = some (.pointer (some ⟨b, 0, none⟩))) :
    Calls Tryz.prog 186 #[.pointer (some ⟨b, 0, none⟩)] w fun e w' => e = .returned (.tuple #[]) ∧ w' = w := by
  obtain ⟨j, hj, _⟩ := Option.map_eq_some_iff.1 sizeBuilder
  go_enter Tryz.func186, Tryz.ntmps186
  go_wp2
  rw [Lib.run_neq_ptr_same w _ Tryz.underlying132 hj]
  go_wp2
  go_end0
  exact ⟨rfl, rfl⟩

set_option maxHeartbeats 1000000 in
set_option maxRecDepth 100000 in
theorem copyCheck_fresh (b : Nat) (w : World) (h0 : w.cell? ⟨b, 0, none⟩ = some (.pointer none)) (hsh : w.shape? b = some (134, 2)) (hfz : w.frozen? ⟨b, 0, none⟩ = false) :
    Calls Tryz.prog 186 #[.pointer (some ⟨b, 0, none⟩)] w fun e w' => e = .returned (.tuple #[]) ∧ w' = w.setCell ⟨b, 0, none⟩ (.pointer (some ⟨b, 0, none⟩)) := by
  obtain ⟨j, hj, hjs⟩ := Option.map_eq_some_iff.1 sizeBuilder
  go_enter Tryz.func186, Tryz.ntmps186
  go_wp2
  rw [Lib.run_to_unsafe w ⟨b, 0, none⟩ Tryz.underlying132 Tryz.underlying185 hj (by rw [hjs]; decide) hsh (Nat.zero_lt_succ 1)]
  simp only [Result.andThen]
  rw [Oper.upon_value]
  go_wp2
  rw [run_callFunc_extern Tryz.func213 (by kernel_rfl) (by kernel_rfl) (by kernel_rfl) (e := Extern.AbiNoEscape.same) (by kernel_rfl)]
  rw [Lib.run_noEscape]
  simp only [Result.andThen]
  rw [Oper.upon_value]
  go_wp2
  rw [Lib.run_from_unsafe w ⟨b, 0, none⟩ Tryz.underlying185 Tryz.underlying132 hj hsh liesBuilder]
  simp only [Result.andThen]
  rw [Oper.upon_value]
  go_wp2
  go_end0
  exact ⟨rfl, rfl⟩

theorem copyCheck_any (B b : Nat) (bs : List Value) (w : World) (h : Lib.IsBuilder 134 5 B b bs w) :
    Calls Tryz.prog 186 #[.pointer (some ⟨b, 0, none⟩)] w fun e w' => e = .returned (.tuple #[]) ∧ (Lib.BuilderAt 134 5 B b (.pointer (some ⟨b, 0, none⟩)) bs w' ∧ Below B w w') := by
  rcases h with h | h
  · refine (copyCheck_fresh b w h.cell0 h.shape h.frozen0).mono ?_
    rintro e w' ⟨rfl, rfl⟩
    exact ⟨rfl, h.used _, (Below.refl B w).setCell (p := ⟨b, 0, none⟩) h.1 _⟩
  · refine (copyCheck_used b w h.cell0).mono ?_
    rintro e w' ⟨rfl, rfl⟩
    exact ⟨rfl, h, Below.refl B _⟩

set_option maxHeartbeats 2000000 in
set_option maxRecDepth 100000 in
theorem WriteByte_any (B b : Nat) (bs : List Value) (c : Int) (w : World) (h : Lib.IsBuilder 134 5 B b bs w) (hlen : bs.length + 1 ≤ 140737488355328) (hBw : B ≤ w.heap.size) :
    Calls Tryz.prog 144 #[.pointer (some ⟨b, 0, none⟩), .int .u8 c] w fun e w' => e = .returned .nilIface ∧ (Lib.BuilderAt 134 5 B b (.pointer (some ⟨b, 0, none⟩)) (bs ++ [.int .u8 c]) w' ∧ Below B w w') := by
  obtain ⟨i0, hi, hz0, hz1, hz2⟩ := info_parts infoByte
  go_enter Tryz.func144, Tryz.ntmps144
  go_wp2_with (go_at_call 186; refine (copyCheck_any B b bs _ h).mono ?_)
  rintro e w1 ⟨rfl, h1, hb1⟩
  obtain ⟨hB, v, hbk, hown, hne⟩ := h1
  have c0 : w1.cell? ⟨b, 0, none⟩ = some (.pointer (some ⟨b, 0, none⟩)) := by rw [Lib.cell_of_heap hbk]; rfl
  have c1 : w1.cell? ⟨b, 1, none⟩ = some v := by rw [Lib.cell_of_heap hbk]; rfl
  go_wp2_with (at_builtin; refine wpList_append_own _ rfl _ _ 35 rfl B 5 i0 (.int .u8 0) 1 1 Tryz.underlying35 hi hz0 hz1 hz2 rfl (by decide) _ _ _ rfl (hown.alloc _) ⟨w1.heap.size, 0, none⟩ 1 1 [.int .u8 c] rfl rfl ?c1 ?c2 ?c3 ?c4 ?c5 ?_)
  case c1 =>
    intro j u hj
    match j, hj with
    | 0, hj => simp at hj; subst hj; simp [Addr.add]
  case c2 => intro u hu; simp at hu; subst hu; rfl
  case c3 => unfold maxLen; omega
  case c4 => omega
  case c5 => have := hb1.size; simp; omega
  intro v' w2 hown' hgrow _
  have hlt : b < w1.heap.size := by
    rcases Nat.lt_or_ge b w1.heap.size with h' | h'
    · exact h'
    · simp [Array.getElem?_eq_none h'] at hbk
  have hb2 : w2.heap[b]? = some (.cells #[.pointer (some ⟨b, 0, none⟩), v] 134 (0, 0)) := by
    rw [hgrow.block b (by simp; omega) (fun e => hne e.symm), Lib.alloc_old w1 _ b hlt]
    exact hbk
  have d0 : w2.cell? ⟨b, 0, none⟩ = some (.pointer (some ⟨b, 0, none⟩)) := by rw [Lib.cell_of_heap hb2]; rfl
  have d1 : w2.cell? ⟨b, 1, none⟩ = some v := by rw [Lib.cell_of_heap hb2]; rfl
  have f1 : w2.frozen? ⟨b, 1, none⟩ = false := Lib.frozen_of_heap hb2 1
  obtain ⟨g, cap, rfl⟩ : ∃ g cap, v' = .slice (some ⟨g, 0, none⟩) (bs.length + 1) cap := by
    rcases hown'.2 with ⟨_, h0⟩ | ⟨g, cap, cur, hv, _⟩
    · omega
    · exact ⟨g, cap, hv⟩
  go_wp2
  go_ret
  refine ⟨rfl, ?_, ?_⟩
  · exact Lib.BuilderAt.put (T := 134) (e := 5) hB hb2 (bs' := bs ++ [.int .u8 c]) (by simpa using hown') (by decide)
  · exact ((hb1.alloc (by have := hb1.size; omega) _).grown hgrow (by have := hb1.size; simp; omega) (fun k hk => (hown.lt k hk).1)).setCell (p := ⟨b, 1, none⟩) hB _

/-- A builder while a cell below its base is written. -/
theorem BuilderAt_setCell {T e : TypeId} {B b : Nat} {p : Value} {bs : List Value} {w : World} (h : Lib.BuilderAt T e B b p bs w) {a : Addr} (ha : a.block < B) (u : Value) : Lib.BuilderAt T e B b p bs (w.setCell a u) := by
  obtain ⟨hB, v, hbk, hown, hne⟩ := h
  exact ⟨hB, v, by rw [Below.heap_setCell _ _ _ _ (by omega)]; exact hbk, ownsRow_setCell_below hown ha u, hne⟩

theorem IsBuilder_setCell {T e : TypeId} {B b : Nat} {bs : List Value} {w : World} (h : Lib.IsBuilder T e B b bs w) {a : Addr} (ha : a.block < B) (u : Value) : Lib.IsBuilder T e B b bs (w.setCell a u) := by
  rcases h with h | h
  · exact Or.inl (BuilderAt_setCell h ha u)
  · exact Or.inr (BuilderAt_setCell h ha u)

/-- A fresh builder. -/
theorem IsBuilder_new (w : World) : Lib.IsBuilder 134 5 w.heap.size w.heap.size [] (w.alloc (.cells #[.pointer none, .slice none 0 0] 134)) := by
  refine Or.inl ⟨Nat.le_refl _, .slice none 0 0, ?_, ?_, ?_⟩
  · show (w.heap.push _)[w.heap.size]? = _
    simp
  · exact World.ownsRow_nil _ _ _ _
  · simp [Value.ownBlock]

end Go.Proofs.YtjamgkcmpcnfpaaGreatDoor

namespace Go.Proofs.YtjamgkcmpcnfpaaGreatDoor
open Go.RowKit

set_option maxHeartbeats 400000 in
theorem name_any (g : Nat) (t : ByteArray) (a b : List UInt8) (rv kv : Value) (w : World) (hA : At g w t rv kv) (ht : t.data.toList = a ++ b) (hs : t.size ≤ 9223372036854775807) (hpos : a ≠ [])
    (ha : allB nameB a = true) (hb : stopB nameB b = true) :
    Calls Tryz.prog 51 #[PP g] w fun e w' => e = .returned (.string ⟨(smallL a).toArray⟩) ∧ At g w' ⟨b.toArray⟩ rv kv ∧ Kept g w w' := by
  have hc := while_name g t rv kv w a.length hA hs (by rw [size_bytes, ht]; simp) (List.length_pos_iff.2 hpos) (allB_at ht ha) (stopB_at ht hb)
  rw [extract_fst t a b ht, extract_snd t a b ht] at hc
  have hsa : (⟨a.toArray⟩ : ByteArray).size ≤ 9223372036854775807 := by
    rw [size_bytes, ht] at hs
    rw [size_bytes]
    simp at hs ⊢
    omega
  have Hc := Lib.hid hc; clear hc
  have Hs := Lib.hid hsa; clear hsa
  clear ht ha hb hpos hs
  go_enter Tryz.func51, Tryz.ntmps51
  go_wp2_with fail
  refine Hc.out.mono ?_
  rintro e w1 ⟨rfl, hA1, hK1⟩
  go_wp2_with fail
  refine (small_any _ _ Hs.out).mono ?_
  rintro e w2 ⟨rfl, hB⟩
  go_wp2_with fail
  go_ret
  exact ⟨by simp, hA1.of_below hB hA1.lt, hK1.trans (Kept.of_below hB (Nat.le_refl _))⟩

set_option maxHeartbeats 400000 in
theorem tag_any (g : Nat) (t : ByteArray) (a b : List UInt8) (rv kv : Value) (w : World) (hA : At g w t rv kv) (ht : t.data.toList = a ++ b) (hs : t.size ≤ 9223372036854775807) (hpos : a ≠ [])
    (ha : allB (atomOr [93]) a = true) (hb : stopB (atomOr [93]) b = true) (hl : a.length ≤ 40) (hp : Lib.indexByte a 43 < 0) :
    Calls Tryz.prog 32 #[PP g] w fun e w' => e = .returned (.string ⟨a.toArray⟩) ∧ At g w' ⟨b.toArray⟩ rv kv ∧ Kept g w w' := by
  have hc := atom_any g t ⟨#[93]⟩ a b rv kv w hA ht hs hpos ha hb
  have Hc := Lib.hid hc; clear hc
  have Hp := Lib.hid hp; clear hp
  have hl' : ((⟨a.toArray⟩ : ByteArray).size : Int) ≤ 40 := by rw [size_bytes]; simp; omega
  have Hl := Lib.hid hl; clear hl
  clear ht ha hb hpos hs
  generalize hgen : (⟨a.toArray⟩ : ByteArray) = A at *
  have Hgen := Lib.hid hgen; clear hgen
  go_enter Tryz.func32, Tryz.ntmps32
  go_wp2_with fail
  refine Hc.out.mono ?_
  rintro e w1 ⟨rfl, hA1, hK1⟩
  go_wp2_with fail
  refine (Tryz.strings_Contains_one _ _ _).mono ?_
  rintro e w2 ⟨rfl, rfl⟩
  have hno : decide (0 ≤ Lib.indexByte A.data.toList 43) = false := by rw [← Hgen.out]; simp; exact Hp.out
  rw [hno]
  go_wp2_with fail
  refine (must_yes _).mono ?_
  rintro e w3 ⟨rfl, rfl⟩
  go_wp2_with fail
  go_ret
  exact ⟨rfl, hA1, hK1⟩

end Go.Proofs.YtjamgkcmpcnfpaaGreatDoor

namespace Go.Proofs.YtjamgkcmpcnfpaaGreatDoor
open Go.RowKit

/-- A byte that stands for itself within quotes. -/
def qB (c : Int) : Bool := decide (1 ≤ c) && decide (c ≤ 127) && (c != 13) && (c != 10) && !(c == 34) && !(c == 92)

theorem qB_parts {c : Int} (h : qB c = true) : 1 ≤ c ∧ c ≤ 127 ∧ (c != 13) = true ∧ (c != 10) = true ∧ (c == 34) = false ∧ (c == 92) = false := by
  simp [qB] at h
  obtain ⟨⟨⟨⟨⟨h1, h2⟩, h3⟩, h4⟩, h5⟩, h6⟩ := h
  exact ⟨h1, h2, by simpa using h3, by simpa using h4, by simpa using h5, by simpa using h6⟩

/-- After some rounds: 'done' is written, 'todo' is left. -/
def QRel (g : Nat) (w : World) (body rest : List UInt8) (rv kv : Value) (k : Nat) (wr : World) : Prop :=
  ∃ done todo, body = done ++ todo ∧ todo.length = k ∧ At g wr ⟨(todo ++ 34 :: rest).toArray⟩ rv kv ∧ Kept g w wr ∧ w.heap.size < wr.heap.size ∧ Lib.IsBuilder 134 5 w.heap.size w.heap.size (Lib.byteCells done) wr

set_option maxHeartbeats 4000000 in
set_option maxRecDepth 100000 in
theorem quoted_any (g : Nat) (t : ByteArray) (body rest : List UInt8) (rv kv : Value) (w : World) (hA : At g w t rv kv) (ht : t.data.toList = body ++ 34 :: rest) (hs : t.size ≤ 140737488355328)
    (hq : allB qB body = true) :
    Calls Tryz.prog 109 #[PP g] w fun e w' => e = .returned (.string ⟨body.toArray⟩) ∧ At g w' ⟨rest.toArray⟩ rv kv ∧ Kept g w w' := by
  have hlen : body.length + rest.length + 1 ≤ 140737488355328 := by rw [size_bytes, ht] at hs; simp at hs; omega
  have hA' : At g w ⟨(body ++ 34 :: rest).toArray⟩ rv kv := by have e : t = ⟨(body ++ 34 :: rest).toArray⟩ := ext_bytes (by simpa using ht); rw [← e]; exact hA
  have hst : QRel g w body rest rv kv body.length (w.alloc (.cells #[.pointer none, .slice none 0 0] 134)) := ⟨[], body, by simp, rfl, hA'.alloc _, (Kept.refl _ _).alloc _, by simp, IsBuilder_new w⟩
  have hgw := hA.lt
  clear ht hA hA'
  have Hq := Lib.hid hq; clear hq
  go_enter Tryz.func109, Tryz.ntmps109
  go_wp2_with fail
  go_loopg [] body.length (fun k wr => QRel g w body rest rv kv k wr)
  case atStart => exact hst
  case round =>
    obtain ⟨done, todo, hb, hk, hA, hK, hz, hI⟩ := hrel
    have hg : g < w.heap.size := hgw
    cases todo with
    | nil =>
      generalize hT : (⟨([] ++ 34 :: rest).toArray⟩ : ByteArray) = T at hA
      have hTl : T.data.toList = [34] ++ rest := by rw [← hT]; simp
      have hx := extract_snd T [34] rest hTl
      have hpos : 0 < T.size := by rw [size_bytes, hTl]; simp
      have e0 : (((T[0]'hpos).toNat : Int) == 34) = true := by rw [← byteAt_of T 0 hpos, byteAt_list T _ hTl]; rfl
      have hne : T.toList.isEmpty = false := by rw [ByteArray.toList_eq, hTl]; rfl
      have h0 := hA.c0
      have h0f := hA.f0
      have hl : T.size ≤ 140737488355328 := by rw [size_bytes, hTl]; simp; omega
      have Hx := Lib.hid hx; clear hx
      have Hb := Lib.hid hb; clear hb
      clear hT hTl hk
      go_wp2_with fail
      refine (must_yes _).mono ?_
      rintro e w1 ⟨rfl, rfl⟩
      go_wp2_with fail
      refine (Tryz.Builder_String_any w.heap.size w.heap.size done _ (IsBuilder_setCell hI (a := ⟨g, 0, none⟩) hg _) (by simp; omega)).mono ?_
      rintro e w2 ⟨rfl, hB⟩
      go_wp2_with fail
      go_ret
      have hX := Hx.out
      simp only [List.length_singleton] at hX
      rw [hX] at hB
      have hbd := Hb.out
      rw [List.append_nil] at hbd
      subst hbd
      exact ⟨rfl, (hA.set0 _).of_below hB hg, (hK.setg 0 _).andBelow hB (Nat.le_refl _)⟩
    | cons c todo =>
      generalize hT : (⟨(c :: todo ++ 34 :: rest).toArray⟩ : ByteArray) = T at hA
      have hTl : T.data.toList = [c] ++ (todo ++ 34 :: rest) := by rw [← hT]; simp
      have hx := extract_snd T [c] _ hTl
      have hpos : 0 < T.size := by rw [size_bytes, hTl]; simp
      have hall := Hq.out
      rw [hb] at hall
      have hqc : qB (c.toNat : Int) = true := by simp [allB] at hall; exact hall.2.1
      have hT0 : ((T[0]'hpos).toNat : Int) = (c.toNat : Int) := by rw [← byteAt_of T 0 hpos, byteAt_list T _ hTl]; rfl
      rw [← hT0] at hqc
      obtain ⟨q1, q2, q3, q4, q5, q6⟩ := qB_parts hqc
      have hne : T.toList.isEmpty = false := by rw [ByteArray.toList_eq, hTl]; rfl
      have h0 := hA.c0
      have h0f := hA.f0
      have hl : T.size ≤ 140737488355328 := by rw [size_bytes, hTl]; rw [hb] at hlen; simp at hlen ⊢; omega
      have hdl : (Lib.byteCells done).length + 1 ≤ 140737488355328 := by rw [hb] at hlen; simp [Lib.byteCells] at hlen ⊢; omega
      have Hx := Lib.hid hx; clear hx
      have Hb := Lib.hid hb; clear hb
      have HT0 := Lib.hid hT0; clear hT0
      have Hk := Lib.hid hk; clear hk
      clear hT hTl hall hqc
      go_wp2_with fail
      refine (must_yes _).mono ?_
      rintro e w1 ⟨rfl, rfl⟩
      go_wp2_with fail
      refine (must_yes _).mono ?_
      rintro e w1 ⟨rfl, rfl⟩
      go_wp2_with fail
      refine (WriteByte_any w.heap.size w.heap.size (Lib.byteCells done) _ _ (IsBuilder_setCell hI (a := ⟨g, 0, none⟩) hg _) hdl (by simp; omega)).mono ?_
      rintro e w2 ⟨rfl, hI2, hB⟩
      go_wp2_with fail
      go_roundg todo.length
      case measure => have := Hk.out; simp at this; omega
      case rel =>
        have hX := Hx.out
        simp only [List.length_singleton] at hX
        rw [hX] at hB
        rw [HT0.out] at hI2
        refine ⟨done ++ [c], todo, by rw [Hb.out]; simp, rfl, (hA.set0 _).of_below hB hg, (hK.setg 0 _).andBelow hB (Nat.le_refl _), ?_, Or.inr ?_⟩
        · have := hB.size; simp at this; omega
        · simpa [Lib.byteCells] using hI2

end Go.Proofs.YtjamgkcmpcnfpaaGreatDoor
