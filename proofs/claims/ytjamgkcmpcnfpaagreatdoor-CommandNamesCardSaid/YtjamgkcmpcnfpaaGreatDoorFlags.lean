/-
  The parser's 'flag', 'list' and 'flags' at the flag that the law's fixed fact has.
-/
import Derived.Test.YtjamgkcmpcnfpaaGreatDoorFlag
namespace Go.Proofs.YtjamgkcmpcnfpaaGreatDoor
open Go.RowKit

def seenL : List UInt8 := [92, 83, 101, 101, 110]

set_option maxHeartbeats 1000000 in
theorem flag_seen (g : Nat) (t : ByteArray) (b : List UInt8) (rv kv : Value) (ty : TypeId) (fr : Nat × Nat) (w : World) (hA : At g w t rv kv) (ht : t.data.toList = seenL ++ b) (hs : t.size ≤ 9223372036854775807) (hb : stopB (atomOr [92]) b = true)
    (h9 : w.heap[9]? = some (.cells namedC ty fr)) (hg : 9 < g) :
    Calls Tryz.prog 122 #[PP g, .int .i64 0] w fun e w' => e = .returned (.int .i64 1) ∧ At g w' ⟨b.toArray⟩ rv kv ∧ Kept g w w' := by
  have hc := atom_any g t ⟨#[92]⟩ seenL b rv kv w hA ht hs (by decide) (by decide) hb
  have h9lt := (Array.getElem?_eq_some_iff.1 h9).1
  have hO := fun (w1 : World) (hk : Kept g w w1) => One_seen ty fr w1 ((hk.block 9 h9lt (by omega)).trans h9)
  have Hc := Lib.hid hc; clear hc
  have HO := Lib.hid hO; clear hO
  clear hA ht hs hb h9
  go_enter Tryz.func122, Tryz.ntmps122
  go_wp2_with fail
  refine Hc.out.mono ?_
  rintro e w1 ⟨rfl, hA1, hK1⟩
  go_wp2_with fail
  refine (HO.out w1 hK1).mono ?_
  rintro e w2 ⟨rfl, hB⟩
  go_wp2_with fail
  refine (must_yes _).mono ?_
  rintro e w3 ⟨rfl, rfl⟩
  go_wp2_with fail
  go_ret
  exact ⟨rfl, hA1.of_below hB hA1.lt, hK1.andBelow hB hK1.size⟩

set_option maxHeartbeats 1000000 in
theorem flags1_seen (g q n : Nat) (t : ByteArray) (b : List UInt8) (rv kv : Value) (ty : TypeId) (fr : Nat × Nat) (w : World) (hA : At g w t rv kv) (ht : t.data.toList = seenL ++ b) (hs : t.size ≤ 9223372036854775807) (hb : stopB (atomOr [92]) b = true)
    (h9 : w.heap[9]? = some (.cells namedC ty fr)) (hg : 9 < g) (hq : w.cell? ⟨q, 0, none⟩ = some (PP g)) (hn : w.heap[n]? = some (.cells #[.int .i64 0] 3 (0, 0))) (hqg : q ≠ g) (hng : n ≠ g) :
    Calls Tryz.prog 150 #[.pointer (some ⟨q, 0, none⟩), .pointer (some ⟨n, 0, none⟩)] w fun e w' => e = .returned (.tuple #[]) ∧ ∃ w1, w' = w1.setCell ⟨n, 0, none⟩ (.int .i64 1) ∧ At g w1 ⟨b.toArray⟩ rv kv ∧ Kept g w w1 := by
  have hF := flag_seen g t b rv kv ty fr w hA ht hs hb h9 hg
  have hnlt := (Array.getElem?_eq_some_iff.1 hn).1
  have c0 := cell_of_block hn
  have HF := Lib.hid hF; clear hF
  have Hn := Lib.hid hn; clear hn
  clear hA ht hs hb h9
  go_enter Tryz.func150, Tryz.ntmps150
  go_wp2_with fail
  refine HF.out.mono ?_
  rintro e w1 ⟨rfl, hA1, hK1⟩
  clear c0
  have hn1 := (hK1.block n hnlt hng).trans Hn.out
  have c1 := cell_of_block hn1
  have f1 := frozen_of_block hn1
  go_wp2_with fail
  first
  | (go_end0; exact ⟨rfl, w1, rfl, hA1, hK1⟩)
  | exact ⟨rfl, _, results_none rfl _ _ _, rfl, w1, rfl, hA1, hK1⟩

set_option maxHeartbeats 1000000 in
set_option maxRecDepth 100000 in
/-- 'list' at one thing. -/
theorem list_one (g : Nat) (fv : Value) (f : FuncId) (cap : Array Value) (r : List UInt8) (rv kv : Value) (w : World) (hfv : fv = .func (.func f) #[] cap) (he : ∀ args w, (callFunc f args).run Tryz.prog w = .ok (.enter f args) w) (Q : World → Prop)
    (hF : Calls Tryz.prog f cap w fun e w' => e = .returned (.tuple #[]) ∧ At g w' ⟨(41 :: r).toArray⟩ rv kv ∧ Q w') :
    Calls Tryz.prog 112 #[PP g, .int .i64 400, fv] w fun e w' => e = .returned (.tuple #[]) ∧ ∃ w1, Q w1 ∧ At g w' ⟨r.toArray⟩ rv kv ∧ Kept g w1 w' := by
  subst hfv
  have HF := Lib.hid hF; clear hF
  go_enter Tryz.func112, Tryz.ntmps112
  go_wp2_with fail
  go_loopw [6] (fun i wr => i = .int .i64 1 ∧ wr = w) (fun i _ => 0)
  case atStart => exact ⟨rfl, rfl⟩
  case round =>
    obtain ⟨rfl, rfl⟩ := hrel
    go_wp2_with fail
    refine (must_yes _).mono ?_
    rintro e w1 ⟨rfl, rfl⟩
    go_wp2_with fail
    refine HF.out.mono ?_
    rintro e w2 ⟨rfl, hA2, hq⟩
    go_wp2_with fail
    refine (may_has g _ ⟨#[41]⟩ r rv kv _ hA2 (by simp)).mono ?_
    rintro e w3 ⟨rfl, hA3, hK3⟩
    go_wp2_with fail
    first
    | (go_end0; exact ⟨rfl, w2, hq, hA3, hK3⟩)
    | (refine bodyPost_ret (results_none rfl _ _ _) rfl ?_; exact ⟨rfl, w2, hq, hA3, hK3⟩)
    | exact ⟨rfl, _, results_none rfl _ _ _, rfl, w2, hq, hA3, hK3⟩

set_option maxHeartbeats 2000000 in
set_option maxRecDepth 100000 in
theorem flags_seen (g : Nat) (t : ByteArray) (r : List UInt8) (rv kv : Value) (ty : TypeId) (fr : Nat × Nat) (w : World) (hA : At g w t rv kv) (ht : t.data.toList = seenL ++ 41 :: r) (hs : t.size ≤ 9223372036854775807)
    (h9 : w.heap[9]? = some (.cells namedC ty fr)) (hg : 9 < g) :
    Calls Tryz.prog 115 #[PP g] w fun e w' => e = .returned (.int .i64 1) ∧ At g w' ⟨r.toArray⟩ rv kv ∧ Kept g w w' := by
  have hlt := hA.lt
  have h9lt := (Array.getElem?_eq_some_iff.1 h9).1
  have key : ∀ W, At g W t rv kv → Kept g ((w.alloc (.cells #[PP g] 49)).alloc (.cells #[.int .i64 0] 3)) W →
      Calls Tryz.prog 112 #[PP g, .int .i64 400, .func (.func 150) #[] #[.pointer (some ⟨w.heap.size, 0, none⟩), .pointer (some ⟨w.heap.size + 1, 0, none⟩)]] W fun e w' => e = .returned (.tuple #[]) ∧
        w'.heap[w.heap.size + 1]? = some (.cells #[.int .i64 1] 3 (0, 0)) ∧ At g w' ⟨r.toArray⟩ rv kv ∧ Kept g w w' := by
    intro W hAW hK
    have hszW := hK.size
    simp only [World.size_alloc] at hszW
    have hq : W.cell? ⟨w.heap.size, 0, none⟩ = some (PP g) := cell_of_block ((hK.block _ (by simp only [World.size_alloc]; omega) (by omega)).trans ((heap_alloc_lt _ _ _ (by simp only [World.size_alloc]; omega)).trans (heap_alloc_at _ _ _ rfl)))
    have hn : W.heap[w.heap.size + 1]? = some (.cells #[.int .i64 0] 3 (0, 0)) := (hK.block _ (by simp only [World.size_alloc]; omega) (by omega)).trans (heap_alloc_at _ _ _ (by simp only [World.size_alloc]))
    have h9W : W.heap[9]? = some (.cells namedC ty fr) := (hK.block 9 (by simp only [World.size_alloc]; omega) (by omega)).trans ((heap_alloc_lt _ _ _ (by simp only [World.size_alloc]; omega)).trans ((heap_alloc_lt _ _ _ h9lt).trans h9))
    have hF := flags1_seen g w.heap.size (w.heap.size + 1) t (41 :: r) rv kv ty fr W hAW ht hs (show (!(atomOr [92] ((41 : UInt8).toNat : Int))) = true from by decide) h9W hg hq hn (by omega) (by omega)
    refine (list_one g _ 150 _ r rv kv W rfl (enters_of Tryz.func150 (by kernel_rfl) rfl) (fun w' => ∃ w1, w' = w1.setCell ⟨w.heap.size + 1, 0, none⟩ (.int .i64 1) ∧ Kept g W w1) (hF.mono ?_)).mono ?_
    · rintro e w' ⟨rfl, w1, rfl, hA1, hK1⟩
      exact ⟨rfl, hA1.other (by simp only []; omega) _, w1, rfl, hK1⟩
    · rintro e w' ⟨rfl, w2, ⟨w1, rfl, hK1⟩, hA', hK'⟩
      have hn1 : w1.heap[w.heap.size + 1]? = some (.cells #[.int .i64 0] 3 (0, 0)) := (hK1.block _ (by omega) (by omega)).trans hn
      have hs1 := hK1.size
      have hs2 := hK'.size
      refine ⟨rfl, (hK'.block _ (by simp [World.setCell]; omega) (by omega)).trans (heap_setCell_same w1 _ 0 _ 3 _ hn1), hA', ?_⟩
      refine Kept.trans ?_ hK'
      refine Kept.setCell ?_ (p := ⟨w.heap.size + 1, 0, none⟩) (.inr (by simp only []; omega)) _
      exact (((Kept.refl g w).alloc _).alloc _).trans (hK.trans hK1)
  have hm := may_not g t ⟨#[41]⟩ rv kv ((w.alloc (.cells #[PP g] 49)).alloc (.cells #[.int .i64 0] 3)) ((hA.alloc _).alloc _) (by rw [ht]; rfl)
  have Hm := Lib.hid hm; clear hm
  have Hk := Lib.hid key; clear key
  have hmf : ∀ (fn : Fn) (first cap : Array Value) (w : World), (Instr.makeFunc fn first cap).run Tryz.prog w = .ok (.func fn first cap) w := fun _ _ _ _ => rfl
  clear hA ht hs h9
  have q0 : ((w.alloc (.cells #[PP g] 49)).alloc (.cells #[.int .i64 0] 3)).cell? ⟨w.heap.size, 0, none⟩ = some (PP g) :=
    cell_of_block ((heap_alloc_lt _ _ _ (by simp only [World.size_alloc]; omega)).trans (heap_alloc_at _ _ _ rfl))
  have Hq0 := Lib.hid q0; clear q0
  go_enter Tryz.func115, Tryz.ntmps115
  go_wp2_with fail
  refine Hm.out.mono ?_
  rintro e w1 ⟨rfl, hA1, hK1⟩
  have q1 := (hK1.cell (p := ⟨w.heap.size, 0, none⟩) (by simp only [World.size_alloc]; omega) (by simp only []; omega)).trans Hq0.out
  go_wp2_with fail
  refine (Hk.out w1 hA1 hK1).mono ?_
  rintro e w2 ⟨rfl, hn2, hA2, hK2⟩
  have c2 := cell_of_block hn2
  have f2 := frozen_of_block hn2
  have hn3 := heap_setCell_same w2 _ 0 _ 3 (.int .i64 1) hn2
  go_wp2_with fail
  have c3 : (w2.setCell ⟨w.heap.size + 1, 0, none⟩ (.int .i64 1)).cell? ⟨w.heap.size + 1, 0, none⟩ = some (.int .i64 1) := cell_of_block hn3
  refine bodyPost_ret (v := .int .i64 1) (by simp [results, Tryz.results115, go_sem, c3]) rfl ?_
  exact ⟨rfl, hA2.other (by simp only []; omega) _, hK2.setCell (p := ⟨w.heap.size + 1, 0, none⟩) (.inr (by simp only []; omega)) _⟩

end Go.Proofs.YtjamgkcmpcnfpaaGreatDoor
