/-
  flag.One at the flag that the law's fixed fact has.
  The parser's 'flag', 'list' and 'flags' at the flag that the law's fixed fact has.
  The parser's 'appended', at a name and a literal.
  The parser's 'store' at the line that the law's fixed fact has.
-/
import Derived.Test.YtjamgkcmpcnfpaaGreatDoorS13
set_option linter.unusedVariables false
set_option linter.unusedSimpArgs false

namespace Go.Proofs.YtjamgkcmpcnfpaaGreatDoor
open Go.RowKit

theorem named0 (w : World) : (Instr.index 165 (.agg namedC) (.int .i64 0)).run Tryz.prog w = .ok (.agg #[.string ⟨#[92, 65, 110, 115, 119, 101, 114, 101, 100]⟩, .int .i64 2]) w := by kernel_rfl
theorem named1 (w : World) : (Instr.index 165 (.agg namedC) (.int .i64 1)).run Tryz.prog w = .ok (.agg #[.string ⟨#[92, 70, 108, 97, 103, 103, 101, 100]⟩, .int .i64 4]) w := by kernel_rfl
theorem named2 (w : World) : (Instr.index 165 (.agg namedC) (.int .i64 2)).run Tryz.prog w = .ok (.agg #[.string ⟨#[92, 68, 101, 108, 101, 116, 101, 100]⟩, .int .i64 8]) w := by kernel_rfl
theorem named3 (w : World) : (Instr.index 165 (.agg namedC) (.int .i64 3)).run Tryz.prog w = .ok (.agg #[.string ⟨#[92, 83, 101, 101, 110]⟩, .int .i64 1]) w := by kernel_rfl

set_option maxHeartbeats 4000000 in
set_option maxRecDepth 100000 in
theorem One_seen (t : TypeId) (fr : Nat × Nat) (w : World) (h9 : w.heap[9]? = some (.cells namedC t fr)) :
    Calls Tryz.prog 160 #[.string ⟨#[92, 83, 101, 101, 110]⟩] w fun e w' => e = .returned (.tuple #[.int .i64 1, .int .i64 0]) ∧ Below w.heap.size w w' := by
  have hi : (Tryz.prog.info? 165).map (·.size) = some namedC.size := by kernel_rfl
  have H9 := Lib.hid h9; clear h9
  have hEF := fun w1 => Tryz.strings_EqualFold ⟨#[92, 83, 101, 101, 110]⟩ ⟨#[92, 83, 101, 101, 110]⟩ w1 (by decide) (by intro j b h; have := List.mem_of_getElem? h; revert this; simp; rintro (rfl | rfl | rfl | rfl) <;> decide) (by intro j b h; have := List.mem_of_getElem? h; revert this; simp; rintro (rfl | rfl | rfl | rfl) <;> decide)
  have HEF := Lib.hid hEF; clear hEF
  have i0 := named0
  have i1 := named1
  have i2 := named2
  have i3 := named3
  go_enter Tryz.func160, Tryz.ntmps160
  go_wp2_with (refine wpList_load_row rfl 165 _ rfl 9 rfl t namedC fr _ H9.out Tryz.underlying165 rfl hi ?_)
  generalize namedC = N at *
  go_loopw [7] (fun i wr => ∃ k : Nat, k ≤ 3 ∧ i = .int .i64 k ∧ Below w.heap.size w wr) (fun i _ => 4 - (intOf i).toNat)
  case atStart => exact ⟨0, by omega, rfl, Below.refl _ _⟩
  case round =>
    obtain ⟨k, hk, rfl, hB⟩ := hrel
    have hk' : k = 0 ∨ k = 1 ∨ k = 2 ∨ k = 3 := by omega
    rcases hk' with rfl | rfl | rfl | rfl
    all_goals go_wp2_with fail
    · exact ⟨⟨1, by omega, rfl, hB.alloc hB.size _⟩, by decide⟩
    · exact ⟨⟨2, by omega, rfl, hB.alloc hB.size _⟩, by decide⟩
    · exact ⟨⟨3, by omega, rfl, hB.alloc hB.size _⟩, by decide⟩
    · refine (HEF.out _).mono ?_
      rintro e w1 ⟨rfl, rfl⟩
      have hef : Lib.equalFold [92, 83, 101, 101, 110] [92, 83, 101, 101, 110] = true := by decide
      rw [hef]
      go_wp2_with fail
      first
      | (go_ret2; exact ⟨rfl, hB.alloc hB.size _⟩)
      | trace_state

end Go.Proofs.YtjamgkcmpcnfpaaGreatDoor

namespace Go.Proofs.YtjamgkcmpcnfpaaGreatDoor
open Go.RowKit

def seenL : List UInt8 := [92, 83, 101, 101, 110]

set_option maxHeartbeats 1000000 in
theorem flag_seen (g : Nat) (t : ByteArray) (b : List UInt8) (rv kv : Value) (ty : TypeId) (fr : Nat × Nat) (w : World) (hA : At g w t rv kv) (ht : t.data.toList = seenL ++ b) (hs : t.size ≤ 9223372036854775807) (hb : stopB (atomOr [92]) b = true)
    (h9 : w.heap[9]? = some (.cells namedC ty fr)) (hg : 9 < g) :
    Calls Tryz.prog 122 #[PP g, .int .i64 0] w fun e w' => e = .returned (.int .i64 1) ∧ At g w' ⟨b.toArray⟩ rv kv ∧ Kept g w w' := by
  have hc := atom_any g t ⟨#[92]⟩ seenL b rv kv w hA ht hs (by decide) (by decide) hb
  have h9lt := (Array.getElem?_eq_some_iff.1 h9).1
  have hO := fun (w1 : World) (hk : Kept g w w1) => One_seen ty fr w1 ((hk.block 9 h9lt (by omega)).trans h9)
  have Hc := Lib.hid hc; clear hc
  have HO := Lib.hid hO; clear hO
  clear hA ht hs hb h9
  go_enter Tryz.func122, Tryz.ntmps122
  go_wp2_with fail
  refine Hc.out.mono ?_
  rintro e w1 ⟨rfl, hA1, hK1⟩
  go_wp2_with fail
  refine (HO.out w1 hK1).mono ?_
  rintro e w2 ⟨rfl, hB⟩
  go_wp2_with fail
  refine (must_yes _).mono ?_
  rintro e w3 ⟨rfl, rfl⟩
  go_wp2_with fail
  go_ret
  exact ⟨rfl, hA1.of_below hB hA1.lt, hK1.andBelow hB hK1.size⟩

set_option maxHeartbeats 1000000 in
theorem flags1_seen (g q n : Nat) (t : ByteArray) (b : List UInt8) (rv kv : Value) (ty : TypeId) (fr : Nat × Nat) (w : World) (hA : At g w t rv kv) (ht : t.data.toList = seenL ++ b) (hs : t.size ≤ 9223372036854775807) (hb : stopB (atomOr [92]) b = true)
    (h9 : w.heap[9]? = some (.cells namedC ty fr)) (hg : 9 < g) (hq : w.cell? ⟨q, 0, none⟩ = some (PP g)) (hn : w.heap[n]? = some (.cells #[.int .i64 0] 3 (0, 0))) (hqg : q ≠ g) (hng : n ≠ g) :
    Calls Tryz.prog 150 #[.pointer (some ⟨q, 0, none⟩), .pointer (some ⟨n, 0, none⟩)] w fun e w' => e = .returned (.tuple #[]) ∧ ∃ w1, w' = w1.setCell ⟨n, 0, none⟩ (.int .i64 1) ∧ At g w1 ⟨b.toArray⟩ rv kv ∧ Kept g w w1 := by
  have hF := flag_seen g t b rv kv ty fr w hA ht hs hb h9 hg
  have hnlt := (Array.getElem?_eq_some_iff.1 hn).1
  have c0 := cell_of_block hn
  have HF := Lib.hid hF; clear hF
  have Hn := Lib.hid hn; clear hn
  clear hA ht hs hb h9
  go_enter Tryz.func150, Tryz.ntmps150
  go_wp2_with fail
  refine HF.out.mono ?_
  rintro e w1 ⟨rfl, hA1, hK1⟩
  clear c0
  have hn1 := (hK1.block n hnlt hng).trans Hn.out
  have c1 := cell_of_block hn1
  have f1 := frozen_of_block hn1
  go_wp2_with fail
  first
  | (go_end0; exact ⟨rfl, w1, rfl, hA1, hK1⟩)
  | exact ⟨rfl, _, results_none rfl _ _ _, rfl, w1, rfl, hA1, hK1⟩

set_option maxHeartbeats 1000000 in
set_option maxRecDepth 100000 in
/-- 'list' at one thing. -/
theorem list_one (g : Nat) (fv : Value) (f : FuncId) (cap : Array Value) (r : List UInt8) (rv kv : Value) (w : World) (hfv : fv = .func (.func f) #[] cap) (he : ∀ args w, (callFunc f args).run Tryz.prog w = .ok (.enter f args) w) (Q : World → Prop)
    (hF : Calls Tryz.prog f cap w fun e w' => e = .returned (.tuple #[]) ∧ At g w' ⟨(41 :: r).toArray⟩ rv kv ∧ Q w') :
    Calls Tryz.prog 112 #[PP g, .int .i64 400, fv] w fun e w' => e = .returned (.tuple #[]) ∧ ∃ w1, Q w1 ∧ At g w' ⟨r.toArray⟩ rv kv ∧ Kept g w1 w' := by
  subst hfv
  have HF := Lib.hid hF; clear hF
  go_enter Tryz.func112, Tryz.ntmps112
  go_wp2_with fail
  go_loopw [6] (fun i wr => i = .int .i64 1 ∧ wr = w) (fun i _ => 0)
  case atStart => exact ⟨rfl, rfl⟩
  case round =>
    obtain ⟨rfl, rfl⟩ := hrel
    go_wp2_with fail
    refine (must_yes _).mono ?_
    rintro e w1 ⟨rfl, rfl⟩
    go_wp2_with fail
    refine HF.out.mono ?_
    rintro e w2 ⟨rfl, hA2, hq⟩
    go_wp2_with fail
    refine (may_has g _ ⟨#[41]⟩ r rv kv _ hA2 (by simp)).mono ?_
    rintro e w3 ⟨rfl, hA3, hK3⟩
    go_wp2_with fail
    first
    | (go_end0; exact ⟨rfl, w2, hq, hA3, hK3⟩)
    | (refine bodyPost_ret (results_none rfl _ _ _) rfl ?_; exact ⟨rfl, w2, hq, hA3, hK3⟩)
    | exact ⟨rfl, _, results_none rfl _ _ _, rfl, w2, hq, hA3, hK3⟩

set_option maxHeartbeats 2000000 in
set_option maxRecDepth 100000 in
theorem flags_seen (g : Nat) (t : ByteArray) (r : List UInt8) (rv kv : Value) (ty : TypeId) (fr : Nat × Nat) (w : World) (hA : At g w t rv kv) (ht : t.data.toList = seenL ++ 41 :: r) (hs : t.size ≤ 9223372036854775807)
    (h9 : w.heap[9]? = some (.cells namedC ty fr)) (hg : 9 < g) :
    Calls Tryz.prog 115 #[PP g] w fun e w' => e = .returned (.int .i64 1) ∧ At g w' ⟨r.toArray⟩ rv kv ∧ Kept g w w' := by
  have hlt := hA.lt
  have h9lt := (Array.getElem?_eq_some_iff.1 h9).1
  have key : ∀ W, At g W t rv kv → Kept g ((w.alloc (.cells #[PP g] 49)).alloc (.cells #[.int .i64 0] 3)) W →
      Calls Tryz.prog 112 #[PP g, .int .i64 400, .func (.func 150) #[] #[.pointer (some ⟨w.heap.size, 0, none⟩), .pointer (some ⟨w.heap.size + 1, 0, none⟩)]] W fun e w' => e = .returned (.tuple #[]) ∧
        w'.heap[w.heap.size + 1]? = some (.cells #[.int .i64 1] 3 (0, 0)) ∧ At g w' ⟨r.toArray⟩ rv kv ∧ Kept g w w' := by
    intro W hAW hK
    have hszW := hK.size
    simp only [World.size_alloc] at hszW
    have hq : W.cell? ⟨w.heap.size, 0, none⟩ = some (PP g) := cell_of_block ((hK.block _ (by simp only [World.size_alloc]; omega) (by omega)).trans ((heap_alloc_lt _ _ _ (by simp only [World.size_alloc]; omega)).trans (heap_alloc_at _ _ _ rfl)))
    have hn : W.heap[w.heap.size + 1]? = some (.cells #[.int .i64 0] 3 (0, 0)) := (hK.block _ (by simp only [World.size_alloc]; omega) (by omega)).trans (heap_alloc_at _ _ _ (by simp only [World.size_alloc]))
    have h9W : W.heap[9]? = some (.cells namedC ty fr) := (hK.block 9 (by simp only [World.size_alloc]; omega) (by omega)).trans ((heap_alloc_lt _ _ _ (by simp only [World.size_alloc]; omega)).trans ((heap_alloc_lt _ _ _ h9lt).trans h9))
    have hF := flags1_seen g w.heap.size (w.heap.size + 1) t (41 :: r) rv kv ty fr W hAW ht hs (show (!(atomOr [92] ((41 : UInt8).toNat : Int))) = true from by decide) h9W hg hq hn (by omega) (by omega)
    refine (list_one g _ 150 _ r rv kv W rfl (enters_of Tryz.func150 (by kernel_rfl) rfl) (fun w' => ∃ w1, w' = w1.setCell ⟨w.heap.size + 1, 0, none⟩ (.int .i64 1) ∧ Kept g W w1) (hF.mono ?_)).mono ?_
    · rintro e w' ⟨rfl, w1, rfl, hA1, hK1⟩
      exact ⟨rfl, hA1.other (by simp only []; omega) _, w1, rfl, hK1⟩
    · rintro e w' ⟨rfl, w2, ⟨w1, rfl, hK1⟩, hA', hK'⟩
      have hn1 : w1.heap[w.heap.size + 1]? = some (.cells #[.int .i64 0] 3 (0, 0)) := (hK1.block _ (by omega) (by omega)).trans hn
      have hs1 := hK1.size
      have hs2 := hK'.size
      refine ⟨rfl, (hK'.block _ (by simp [World.setCell]; omega) (by omega)).trans (heap_setCell_same w1 _ 0 _ 3 _ hn1), hA', ?_⟩
      refine Kept.trans ?_ hK'
      refine Kept.setCell ?_ (p := ⟨w.heap.size + 1, 0, none⟩) (.inr (by simp only []; omega)) _
      exact (((Kept.refl g w).alloc _).alloc _).trans (hK.trans hK1)
  have hm := may_not g t ⟨#[41]⟩ rv kv ((w.alloc (.cells #[PP g] 49)).alloc (.cells #[.int .i64 0] 3)) ((hA.alloc _).alloc _) (by rw [ht]; rfl)
  have Hm := Lib.hid hm; clear hm
  have Hk := Lib.hid key; clear key
  have hmf : ∀ (fn : Fn) (first cap : Array Value) (w : World), (Instr.makeFunc fn first cap).run Tryz.prog w = .ok (.func fn first cap) w := fun _ _ _ _ => rfl
  clear hA ht hs h9
  have q0 : ((w.alloc (.cells #[PP g] 49)).alloc (.cells #[.int .i64 0] 3)).cell? ⟨w.heap.size, 0, none⟩ = some (PP g) :=
    cell_of_block ((heap_alloc_lt _ _ _ (by simp only [World.size_alloc]; omega)).trans (heap_alloc_at _ _ _ rfl))
  have Hq0 := Lib.hid q0; clear q0
  go_enter Tryz.func115, Tryz.ntmps115
  go_wp2_with fail
  refine Hm.out.mono ?_
  rintro e w1 ⟨rfl, hA1, hK1⟩
  have q1 := (hK1.cell (p := ⟨w.heap.size, 0, none⟩) (by simp only [World.size_alloc]; omega) (by simp only []; omega)).trans Hq0.out
  go_wp2_with fail
  refine (Hk.out w1 hA1 hK1).mono ?_
  rintro e w2 ⟨rfl, hn2, hA2, hK2⟩
  have c2 := cell_of_block hn2
  have f2 := frozen_of_block hn2
  have hn3 := heap_setCell_same w2 _ 0 _ 3 (.int .i64 1) hn2
  go_wp2_with fail
  have c3 : (w2.setCell ⟨w.heap.size + 1, 0, none⟩ (.int .i64 1)).cell? ⟨w.heap.size + 1, 0, none⟩ = some (.int .i64 1) := cell_of_block hn3
  refine bodyPost_ret (v := .int .i64 1) (by simp [results, Tryz.results115, go_sem, c3]) rfl ?_
  exact ⟨rfl, hA2.other (by simp only []; omega) _, hK2.setCell (p := ⟨w.heap.size + 1, 0, none⟩) (.inr (by simp only []; omega)) _⟩

end Go.Proofs.YtjamgkcmpcnfpaaGreatDoor

namespace Go.Proofs.YtjamgkcmpcnfpaaGreatDoor
open Go.RowKit

theorem box_atom_more (B g : Nat) (s t : ByteArray) (r : List UInt8) (a : Option Addr) (n c : Nat) (kv : Value) (w : World) (hE : Env B w) (hg : B ≤ g) (hA : At g w t (.slice a n c) kv) (ht : t.data.toList = s.data.toList ++ 32 :: r) (hs : t.size ≤ 9223372036854775807) (h : NameOk s) (hne : s.data.toList ≠ []) (hat : allB atomB s.data.toList = true) :
    Calls Tryz.prog 81 #[PP g] w fun e w' => e = .returned (.string ⟨(cleanL s.data.toList).toArray⟩) ∧ At g w' ⟨(32 :: r).toArray⟩ (.slice a n c) kv ∧ Kept g w w' := by
  obtain ⟨m, hm⟩ := hE.m
  have hat' : allB (atomOr []) s.data.toList = true := by
    unfold allB at hat ⊢; rw [List.all_eq_true] at hat ⊢; intro x hx; rw [atomOr_nil]; exact hat x hx
  have e0 : (⟨s.data.toList.toArray⟩ : ByteArray) = s := ext_list s _ rfl
  have hS := str_atom g t ⟨#[]⟩ s.data.toList (32 :: r) a n c kv w hA ht hs hne hat' rfl (by decide)
  rw [e0] at hS
  refine (box_of g s m w (fun w' => At g w' ⟨(32 :: r).toArray⟩ (.slice a n c) kv ∧ Kept g w w') hS (fun w' hq => hq.2) hm (by have := hE.four; omega) h).mono ?_
  rintro e w' ⟨rfl, w1, ⟨hA1, hK1⟩, hB1⟩
  exact ⟨rfl, hA1.of_below hB1 hA1.lt, hK1.andBelow hB1 hK1.size⟩

theorem Kept2.lt {g x : Nat} {w w' : World} (h : Kept2 g x w w') {k : Nat} (hk : k < w.heap.size) : k < w'.heap.size := Nat.lt_of_lt_of_le hk h.size

set_option maxHeartbeats 4000000 in
set_option maxRecDepth 100000 in
theorem appended_any (g xb rb ro c : Nat) (t cl b0 z0 lit : ByteArray) (d0 : Int) (cs : Array Value) (r2 : List UInt8) (kv : Value) (w : World) (hA : At g w t (.slice (some ⟨rb, ro, none⟩) 2 c) kv) (hgx : xb ≠ g)
    (hX : w.heap[xb]? = some (.cells cs 31 (0, 0))) (h3 : cs[3]? = some (.string b0)) (h9 : cs[9]? = some (.int .i64 d0)) (h11 : cs[11]? = some (.string z0))
    (hc2 : 2 ≤ c) (hmax : c ≤ 9223372036854775807) (hr0 : w.cell? ⟨rb, ro, none⟩ = some (.string lit)) (hr1 : w.cell? ⟨rb, ro + 1, none⟩ = some (.string ⟨#[]⟩)) (hne : rb ≠ g) (hnx : rb ≠ xb)
    (hBox : Calls Tryz.prog 81 #[PP g] w fun e w' => e = .returned (.string cl) ∧ At g w' ⟨#[32]⟩ (.slice (some ⟨rb, ro, none⟩) 2 c) kv ∧ Kept g w w') :
    Calls Tryz.prog 85 #[PP g, .pointer (some ⟨xb, 0, none⟩)] w fun e w' => e = .returned (.tuple #[]) ∧
      w'.heap[xb]? = some (.cells (((cs.setIfInBounds 3 (.string cl)).setIfInBounds 9 (.int .i64 (-1))).setIfInBounds 11 (.string lit)) 31 (0, 0)) ∧ Done g kv w' ∧ Kept2 g xb w w' := by
  have hlt := (Array.getElem?_eq_some_iff.1 hX).1
  have hrlt := World.block_lt_of_cell? _ _ hr0
  simp only at hrlt
  have HB := Lib.hid hBox; clear hBox
  have HX := Lib.hid hX; clear hX
  have H3 := Lib.hid h3; clear h3
  have H9 := Lib.hid h9; clear h9
  have H11 := Lib.hid h11; clear h11
  have Hr0 := Lib.hid hr0; clear hr0
  have Hr1 := Lib.hid hr1; clear hr1
  clear hA
  go_enter Tryz.func85, Tryz.ntmps85
  go_wp2_with fail
  refine HB.out.mono ?_
  rintro e w1 ⟨rfl, hA1, hK1⟩
  have X1 := Lib.hid ((hK1.block xb hlt hgx).trans HX.out)
  have c13 := cells_at X1.out H3.out
  have f13 := Lib.frozen_of_heap X1.out 3
  have X2 := Lib.hid (heap_setCell_same w1 xb 3 cs 31 (.string cl) X1.out)
  have c29 := cells_at (j := 9) X2.out (by rw [Array.getElem?_setIfInBounds]; simp; exact H9.out)
  have f29 := Lib.frozen_of_heap X2.out 9
  have X3 := Lib.hid (heap_setCell_same _ xb 9 _ 31 (.int .i64 (-1)) X2.out)
  have hA3 := (hA1.other (p := ⟨xb, 3, none⟩) hgx (.string cl)).other (p := ⟨xb, 9, none⟩) hgx (.int .i64 (-1))
  have hK3 : Kept2 g xb w ((w1.setCell ⟨xb, 3, none⟩ (.string cl)).setCell ⟨xb, 9, none⟩ (.int .i64 (-1))) := ((hK1.two xb).setx 3 _).setx 9 _
  go_wp2_with fail
  generalize ((w1.setCell ⟨xb, 3, none⟩ (.string cl)).setCell ⟨xb, 9, none⟩ (.int .i64 (-1))) = W3 at *
  refine (eat_has g _ ⟨#[32]⟩ [] _ kv _ hA3 rfl).mono ?_
  rintro e w4 ⟨rfl, hA4, hK4⟩
  go_wp2_with fail
  refine (may_not g _ ⟨#[40]⟩ _ kv _ hA4 rfl).mono ?_
  rintro e w5 ⟨rfl, hA5, hK5⟩
  go_wp2_with fail
  refine (may_not g _ ⟨#[34]⟩ _ kv _ hA5 rfl).mono ?_
  rintro e w6 ⟨rfl, hA6, hK6⟩
  have hK36 := (hK4.trans hK5).trans hK6
  have hK06 := hK3.trans (hK36.two xb)
  go_wp2_with fail
  refine (literal_any g _ lit ⟨#[]⟩ rb ro 2 c kv w6 hA6 (empty_list _ rfl) (Nat.le_refl _) hc2 hmax ((hK06.cell (p := ⟨rb, ro, none⟩) hrlt hne hnx).trans Hr0.out) ((hK06.cell (p := ⟨rb, ro + 1, none⟩) hrlt hne hnx).trans Hr1.out) hne).mono ?_
  rintro e w7 ⟨rfl, ⟨a', hA7⟩, hK7⟩
  have X7 := Lib.hid (((hK36.trans hK7).block xb (hK3.lt hlt) hgx).trans X3.out)
  have c7 := cells_at (j := 11) X7.out (by rw [Array.getElem?_setIfInBounds, Array.getElem?_setIfInBounds]; simp; exact H11.out)
  have f7 := Lib.frozen_of_heap X7.out 11
  go_wp2_with fail
  have fin := heap_setCell_same w7 xb 11 _ 31 (.string lit) X7.out
  first
  | (go_end0; exact ⟨rfl, fin, ⟨a', c - 2, hA7.other (p := ⟨xb, 11, none⟩) hgx _⟩, (hK06.trans (hK7.two xb)).setx 11 _⟩)
  | exact ⟨rfl, _, results_none rfl _ _ _, rfl, fin, ⟨a', c - 2, hA7.other (p := ⟨xb, 11, none⟩) hgx _⟩, (hK06.trans (hK7.two xb)).setx 11 _⟩

set_option maxHeartbeats 4000000 in
set_option maxRecDepth 100000 in
/-- 'takes' at a command whose taking is a method of its own: append, store. -/
theorem takes_own (g xb : Nat) (op : Int) (f : FuncId) (hop : op = 15 ∧ f = 85 ∨ op = 21 ∧ f = 88) (t : ByteArray) (r : List UInt8) (rv kv : Value) (w : World) (Q : World → Prop) (hA : At g w t rv kv) (ht : t.data.toList = 32 :: r) (hgx : xb ≠ g)
    (h1 : w.cell? ⟨xb, 1, none⟩ = some (.int .i64 op))
    (hApp : ∀ w1, At g w1 ⟨r.toArray⟩ rv kv → Kept g w w1 → Calls Tryz.prog f #[PP g, .pointer (some ⟨xb, 0, none⟩)] w1 fun e w' => e = .returned (.tuple #[]) ∧ Q w') :
    Calls Tryz.prog 52 #[PP g, .pointer (some ⟨xb, 0, none⟩)] w fun e w' => e = .returned (.tuple #[]) ∧ Q w' := by
  have hE := eat_has g t ⟨#[32]⟩ r rv kv w hA (space_has t r ht)
  have hlt := World.block_lt_of_cell? _ _ h1
  have HE := Lib.hid hE; clear hE
  have HA := Lib.hid hApp; clear hApp
  clear hA ht
  rcases hop with ⟨rfl, rfl⟩ | ⟨rfl, rfl⟩
  all_goals
    go_enter Tryz.func52, Tryz.ntmps52
    go_wp2_with fail
    refine HE.out.mono ?_
    rintro e w1 ⟨rfl, hA1, hK1⟩
    have h1' := (hK1.cell (p := ⟨xb, 1, none⟩) hlt hgx).trans h1
    go_wp2_with fail
    refine (HA.out w1 hA1 hK1).mono ?_
    rintro e w2 ⟨rfl, hq⟩
    go_wp2_with fail
    first
    | (go_end0; exact ⟨rfl, hq⟩)
    | (refine bodyPost_ret (results_none rfl _ _ _) rfl ?_; exact ⟨rfl, hq⟩)

def cmdApp (tag : List UInt8) (cl lit : ByteArray) : Array Value :=
  #[.string ⟨tag.toArray⟩, .int .i64 15, .bool false, .string cl, .string ⟨#[]⟩, .slice none 0 0, .int .i64 0, .bool false, .int .i64 0, .int .i64 (-1), .int .i64 0, .string lit, .slice none 0 0, .slice none 0 0, .slice none 0 0]

set_option maxRecDepth 10000 in
theorem parse_append (B b : Nat) (p0 s lit : ByteArray) (tag nm : List UInt8) (w : World) (hE : Env B w) (hT : TagOk tag) (hO : OpOk nm 15) (hB : BoxOk s) (hlit : lit.size ≤ 2000)
    (hp : p0.data.toList = tag ++ 32 :: (nm ++ 32 :: (s.data.toList ++ [32]))) (hs : p0.size ≤ 2000) (hc : w.cell? ⟨b, 0, none⟩ = some (.string p0)) (hc1 : w.cell? ⟨b, 1, none⟩ = some (.string lit)) (hc2 : w.cell? ⟨b, 2, none⟩ = some (.string ⟨#[]⟩)) :
    Calls Tryz.prog 10 #[.slice (some ⟨b, 0, none⟩) 3 3] w fun e w' => e = .returned (.tuple #[.agg (cmdApp tag (boxCl s) lit), .int .i64 0]) ∧ Below w.heap.size w w' := by
  have hlt := World.block_lt_of_cell? _ _ hc
  simp only at hlt
  have hj3 : ∀ j, j < 3 → j = 0 ∨ j = 1 ∨ j = 2 := by omega
  have hr : (⟨(s.data.toList ++ [32]).toArray⟩ : ByteArray).size ≤ 9223372036854775807 := by rw [size_bytes, hp] at hs; rw [size_bytes]; simp at hs ⊢; omega
  have h := Parse_ok b 0 3 3 [p0, lit, ⟨#[]⟩] p0 w rfl (by omega) rfl (Nat.le_refl _) (by omega)
    (by intro j hj
        rcases hj3 j hj with rfl | rfl | rfl
        · exact hc
        · exact hc1
        · exact hc2)
    (by intro j hj
        rcases hj3 j hj with rfl | rfl | rfl
        · exact hs
        · exact hlit
        · exact Nat.zero_le _) rfl (fun cs => cs = cmdApp tag (boxCl s) lit) (by rintro cs rfl; exact ⟨rfl, by simp [cmdApp, Value.oneCell']⟩) _ (stays_true _) (fun g w1 hg hA hb hsz => by
      rw [if_neg (by omega)] at hA
      have hEw := hE
      obtain ⟨bm, hl⟩ := hE.look
      refine command_plain g bm p0 tag nm (32 :: (s.data.toList ++ [32])) 15 _ _ w1 hA hp (by omega) hT.ne hT.all hT.len hT.plus hO.ne hO.all rfl hO.look hO.op hO.uid (fun W hW => hl W ((hb.mono hE.le).trans (hW.below (Nat.le_trans hE.le hg) (by have := hE.le; omega) (by have := hE.le; omega))))
        _ (by rintro cs rfl; exact ⟨rfl, by simp [cmdApp, Value.oneCell']⟩) _ ?_
      intro w2 hA2 hX hK
      have hlt1 := hA.lt
      refine (takes_own g w1.heap.size 15 85 (.inl ⟨rfl, rfl⟩) _ (s.data.toList ++ [32]) _ _ w2 (fun w' => ∃ cs, cs = cmdApp tag (boxCl s) lit ∧ w'.heap[w1.heap.size]? = some (.cells cs 31 (0, 0)) ∧ Done g (.slice none 0 0) w' ∧ Kept2 g w1.heap.size w2 w' ∧ True) hA2 rfl (by omega) (cells_at hX (by simp [zeroCmd])) (fun w3 hA3 hK3 => ?_)).mono ?_
      · have hb13 : Below w.heap.size w w3 := hb.trans ((hK.trans (hK3.two _)).below (by omega) (by omega) (by omega))
        have hsz12 := hK.size
        have hxlt := (Array.getElem?_eq_some_iff.1 hX).1
        refine (appended_any g w1.heap.size b 1 2 _ (boxCl s) ⟨#[]⟩ ⟨#[]⟩ lit 0 _ [] _ w3 hA3 (by omega) ((hK3.block _ hxlt (by omega)).trans hX) (by simp [zeroCmd]) (by simp [zeroCmd]) (by simp [zeroCmd]) (Nat.le_refl _) (by omega)
          ((hb13.cell (p := ⟨b, 1, none⟩) hlt).trans hc1) ((hb13.cell (p := ⟨b, 2, none⟩) hlt).trans hc2) (by omega) (by omega) (box_atom_more B g s _ [] _ _ _ _ w3 (hEw.step (hb13.mono hE.le)) (Nat.le_trans hE.le hg) hA3 (by simp) hr hB.name hB.ne hB.atom)).mono ?_
        rintro e w4 ⟨rfl, hX4, hD4, hK4⟩
        exact ⟨rfl, _, by simp [zeroCmd, cmdApp], hX4, hD4, (hK3.two _).trans hK4, trivial⟩
      · rintro e w4 ⟨rfl, cs, rfl, hX4, hD4, hK4, _⟩
        exact ⟨_, rfl, rfl, hX4, hD4, hK4, trivial⟩)
  refine h.mono ?_
  rintro e w' ⟨cs, rfl, rfl, hb, _⟩
  exact ⟨rfl, hb⟩

end Go.Proofs.YtjamgkcmpcnfpaaGreatDoor

namespace Go.Proofs.YtjamgkcmpcnfpaaGreatDoor
open Go.RowKit

/-- FLAGS.SILENT -/
def silentL : List UInt8 := [70, 76, 65, 71, 83, 46, 83, 73, 76, 69, 78, 84]
/-- What follows the set in the fixed line. -/
def tailL : List UInt8 := 32 :: 43 :: (silentL ++ 32 :: 40 :: (seenL ++ [41]))

set_option maxHeartbeats 4000000 in
set_option maxRecDepth 100000 in
theorem store_seen (g xb : Nat) (cs : Array Value) (s5 : Value) (b7 : Bool) (i6 i8 : Int) (rv kv : Value) (ty : TypeId) (fr : Nat × Nat) (w : World) (hgx : xb ≠ g) (hglt : g < w.heap.size) (hg9 : 9 < g) (hx9 : 9 < xb)
    (h9 : w.heap[9]? = some (.cells namedC ty fr)) (hX : w.heap[xb]? = some (.cells cs 31 (0, 0))) (h5 : cs[5]? = some s5) (h6 : cs[6]? = some (.int .i64 i6)) (h7 : cs[7]? = some (.bool b7)) (h8 : cs[8]? = some (.int .i64 i8))
    (hSet : Calls Tryz.prog 79 #[PP g] w fun e w' => ∃ A c, e = .returned (.slice A 1 c) ∧ At g w' ⟨tailL.toArray⟩ rv kv ∧ Kept g w w') :
    Calls Tryz.prog 88 #[PP g, .pointer (some ⟨xb, 0, none⟩)] w fun e w' => e = .returned (.tuple #[]) ∧ ∃ A c,
      w'.heap[xb]? = some (.cells ((((cs.setIfInBounds 5 (.slice A 1 c)).setIfInBounds 6 (.int .i64 1)).setIfInBounds 7 (.bool true)).setIfInBounds 8 (.int .i64 1)) 31 (0, 0)) ∧ At g w' ⟨#[]⟩ rv kv ∧ Kept2 g xb w w' := by
  have hlt := (Array.getElem?_eq_some_iff.1 hX).1
  have HS := Lib.hid hSet; clear hSet
  have HX := Lib.hid hX; clear hX
  have H5 := Lib.hid h5; clear h5
  have H6 := Lib.hid h6; clear h6
  have H7 := Lib.hid h7; clear h7
  have H8 := Lib.hid h8; clear h8
  have H9 := Lib.hid h9; clear h9
  have h9lt := (Array.getElem?_eq_some_iff.1 H9.out).1
  go_enter Tryz.func88, Tryz.ntmps88
  go_wp2_with fail
  refine HS.out.mono ?_
  rintro e w1 ⟨A, c, rfl, hA1, hK1⟩
  have X1 := Lib.hid ((hK1.block xb hlt hgx).trans HX.out)
  have c1 := cells_at X1.out H5.out
  have f1 := Lib.frozen_of_heap X1.out 5
  have X2 := Lib.hid (heap_setCell_same w1 xb 5 cs 31 (.slice A 1 c) X1.out)
  have hA2 := hA1.other (p := ⟨xb, 5, none⟩) hgx (.slice A 1 c)
  have hK2 := (hK1.two xb).setx 5 (.slice A 1 c)
  go_wp2_with fail
  clear c1 f1
  generalize (w1.setCell ⟨xb, 5, none⟩ (.slice A 1 c)) = W2 at *
  refine (eat_has g _ ⟨#[32]⟩ (43 :: (silentL ++ 32 :: 40 :: (seenL ++ [41]))) rv kv _ hA2 rfl).mono ?_
  rintro e w3 ⟨rfl, hA3, hK3⟩
  go_wp2_with fail
  refine (may_has g _ ⟨#[43]⟩ (silentL ++ 32 :: 40 :: (seenL ++ [41])) rv kv _ hA3 rfl).mono ?_
  rintro e w4 ⟨rfl, hA4, hK4⟩
  have hK04 := hK2.trans ((hK3.trans hK4).two xb)
  have X4 := Lib.hid (((hK3.trans hK4).block xb (hK2.lt hlt) hgx).trans X2.out)
  have c4 := cells_at (j := 6) X4.out (by rw [Array.getElem?_setIfInBounds]; simp; exact H6.out)
  have f4 := Lib.frozen_of_heap X4.out 6
  have X5 := Lib.hid (heap_setCell_same w4 xb 6 _ 31 (.int .i64 1) X4.out)
  have hA5 := hA4.other (p := ⟨xb, 6, none⟩) hgx (.int .i64 1)
  have hK5 := hK04.setx 6 (.int .i64 1)
  go_wp2_with fail
  clear c4 f4
  generalize (w4.setCell ⟨xb, 6, none⟩ (.int .i64 1)) = W5 at *
  refine (name_any g _ silentL (32 :: 40 :: (seenL ++ [41])) rv kv _ hA5 rfl (by decide) (by decide) (by decide) (by decide)).mono ?_
  rintro e w6 ⟨rfl, hA6, hK6⟩
  have hsm : smallL silentL = [102, 108, 97, 103, 115, 46, 115, 105, 108, 101, 110, 116] := by decide
  rw [hsm]
  have hK06 := hK5.trans (hK6.two xb)
  have X6 := Lib.hid ((hK6.block xb (hK5.lt hlt) hgx).trans X5.out)
  have c6 := cells_at (j := 7) X6.out (by rw [Array.getElem?_setIfInBounds, Array.getElem?_setIfInBounds]; simp; exact H7.out)
  have f6 := Lib.frozen_of_heap X6.out 7
  have X7 := Lib.hid (heap_setCell_same w6 xb 7 _ 31 (.bool true) X6.out)
  have hA7 := hA6.other (p := ⟨xb, 7, none⟩) hgx (.bool true)
  have hK7 := hK06.setx 7 (.bool true)
  go_wp2_with fail
  refine (must_yes _).mono ?_
  rintro e w7' ⟨rfl, rfl⟩
  clear c6 f6
  generalize (w6.setCell ⟨xb, 7, none⟩ (.bool true)) = W7 at *
  go_wp2_with fail
  refine (eat_has g _ ⟨#[32]⟩ (40 :: (seenL ++ [41])) rv kv _ hA7 rfl).mono ?_
  rintro e w8 ⟨rfl, hA8, hK8⟩
  go_wp2_with fail
  refine (may_has g _ ⟨#[40]⟩ (seenL ++ [41]) rv kv _ hA8 rfl).mono ?_
  rintro e w9 ⟨rfl, hA9, hK9⟩
  have hK09 := hK7.trans ((hK8.trans hK9).two xb)
  go_wp2_with fail
  refine (flags_seen g _ [] rv kv ty fr _ hA9 rfl (by decide) ((hK09.block 9 h9lt (by omega) (by omega)).trans H9.out) hg9).mono ?_
  rintro e w10 ⟨rfl, hA10, hK10⟩
  have X10 := Lib.hid ((((hK8.trans hK9).trans hK10).block xb (hK7.lt hlt) hgx).trans X7.out)
  have c10 := cells_at (j := 8) X10.out (by rw [Array.getElem?_setIfInBounds, Array.getElem?_setIfInBounds, Array.getElem?_setIfInBounds]; simp; exact H8.out)
  have f10 := Lib.frozen_of_heap X10.out 8
  go_wp2_with fail
  have fin := heap_setCell_same w10 xb 8 _ 31 (.int .i64 1) X10.out
  have hfin : (∃ A c, (w10.setCell ⟨xb, 8, none⟩ (.int .i64 1)).heap[xb]? = some (.cells ((((cs.setIfInBounds 5 (.slice A 1 c)).setIfInBounds 6 (.int .i64 1)).setIfInBounds 7 (.bool true)).setIfInBounds 8 (.int .i64 1)) 31 (0, 0)) ∧ At g (w10.setCell ⟨xb, 8, none⟩ (.int .i64 1)) ⟨#[]⟩ rv kv ∧ Kept2 g xb w (w10.setCell ⟨xb, 8, none⟩ (.int .i64 1))) :=
    ⟨A, c, fin, hA10.other (p := ⟨xb, 8, none⟩) hgx _, (hK09.trans (hK10.two xb)).setx 8 _⟩
  first
  | (go_end0; exact ⟨rfl, hfin⟩)
  | (refine bodyPost_ret (results_none rfl _ _ _) rfl ?_; exact ⟨rfl, hfin⟩)
  | exact ⟨rfl, _, results_none rfl _ _ _, rfl, hfin⟩

end Go.Proofs.YtjamgkcmpcnfpaaGreatDoor
