/-
  The reference's numbers of sets, and its flags: 'number' (09), 'small', 'names', 'One' (08).
  The references' 'split' (09 and 07: the same text).
  The reference's 'Parse' of sets (09), 'set', 'flag', 'flags' (24).
-/
import Derived.Test.YtjamgkcmpcnfpaaGreatDoorS10
import Derived.Test.YtjamgkcmpcnfpaaGreatDoorS08
import Derived.Test.YtjamgkcmpcnfpaaGreatDoorS03
import Derived.Deep.RegionHeld3
set_option linter.unusedVariables false
set_option linter.unusedSimpArgs false

namespace Go.Proofs.YtjamgkcmpcnfpaaGreatDoor
open Go.RowKit

/-- A number is returned; the world stands. -/
def Ints (w : World) (e : Ending) (w' : World) : Prop := ∃ v : Int, e = .returned (.int .i64 v) ∧ w = w'

set_option maxHeartbeats 4000000 in
theorem number09 (s : ByteArray) (w : World) (hs : s.size ≤ 9223372036854775806) : Calls Tryz.prog 128 #[.string s] w (Ints w) := by
  by_cases e1 : s.toList = [42]
  · have e1' : (s.toList == [42]) = true := by simpa using e1
    clear e1
    go_enter Tryz.func128, Tryz.ntmps128
    go_wp2_with fail
    go_ret
    exact ⟨_, rfl, rfl⟩
  · have e1' : (s.toList == [42]) = false := by simpa using e1
    clear e1
    by_cases e2 : s.size = 0
    · have e2' : s.toList.isEmpty = true := by rw [Lib.toList_data, List.isEmpty_iff, ← List.length_eq_zero_iff, ← size_bytes]; exact e2
      have e2'' : s.toList = [] := List.isEmpty_iff.1 e2'
      go_enter Tryz.func128, Tryz.ntmps128
      go_wp2_with fail
      go_ret
      exact ⟨_, rfl, rfl⟩
    · have e2' : s.toList.isEmpty = false := by rw [Lib.toList_data]; cases h : s.data.toList with | nil => rw [size_bytes, h] at e2; simp at e2 | cons _ _ => rfl
      have e2n : (!s.toList.isEmpty) = true := by rw [e2']; rfl
      have hpos : 0 < s.size := by omega
      clear e2
      by_cases e3 : (s[0].toNat : Int) = 48
      · have e3' : ((s[0].toNat : Int) == 48) = true := by simpa using e3
        clear e3
        go_enter Tryz.func128, Tryz.ntmps128
        go_wp2_with fail
        go_ret
        exact ⟨_, rfl, rfl⟩
      · have e3' : ((s[0].toNat : Int) == 48) = false := by simpa using e3
        clear e3
        go_enter Tryz.func128, Tryz.ntmps128
        go_wp2_with fail
        clear e1' e2' e2n e3'
        go_loop [3, 4] (fun x i => ∃ (k : Nat) (n : Int), k ≤ s.size ∧ i = .int .i64 k ∧ x = .int .i64 n) (fun _ i => s.size - (intOf i).toNat)
        case atStart => exact ⟨0, 0, by omega, rfl, rfl⟩
        case round =>
          obtain ⟨k, n, hk, rfl, rfl⟩ := hrel
          by_cases hlt : k < s.size
          · by_cases x1 : (s[k].toNat : Int) < 48
            · have x1' : decide ((s[k].toNat : Int) < 48) = true := by simp; omega
              clear x1
              go_wp2_with fail
              go_ret
              exact ⟨_, rfl, rfl⟩
            · have x1' : decide ((s[k].toNat : Int) < 48) = false := by simp; omega
              by_cases x2 : 57 < (s[k].toNat : Int)
              · have x2' : decide (57 < (s[k].toNat : Int)) = true := by simp; omega
                clear x1 x2
                go_wp2_with fail
                go_ret
                exact ⟨_, rfl, rfl⟩
              · have x2' : decide (57 < (s[k].toNat : Int)) = false := by simp; omega
                by_cases x3 : 4294967296 < n
                · have x3' : decide (4294967296 < n) = true := by simpa using x3
                  clear x1 x2 x3
                  go_wp2_with fail
                  go_ret
                  exact ⟨_, rfl, rfl⟩
                · have x3' : decide (4294967296 < n) = false := by simpa using x3
                  clear x1 x2 x3
                  go_wp2_with fail
                  go_round
                  case rel => exact ⟨k + 1, _, by omega, by go_num, rfl⟩
                  case measure => simp [intOf]; omega
          · by_cases x3 : 4294967295 < n
            · have x3' : decide (4294967295 < n) = true := by simpa using x3
              clear x3
              go_wp2_with fail
              go_ret
              exact ⟨_, rfl, rfl⟩
            · have x3' : decide (4294967295 < n) = false := by simpa using x3
              clear x3
              go_wp2_with fail
              go_ret
              exact ⟨_, rfl, rfl⟩

set_option maxHeartbeats 4000000 in
theorem small08 (s : ByteArray) (w : World) (hs : s.size ≤ 2000) : Calls Tryz.prog 178 #[.string s] w (StrBelow w) := by
  have hone := one_byte
  have hosz := one_size
  go_enter Tryz.func178, Tryz.ntmps178
  go_wp2_with fail
  go_loopw [3, 4] (fun x i wr => ∃ (k : Nat) (t : ByteArray), k ≤ s.size ∧ i = .int .i64 k ∧ x = .string t ∧ t.size ≤ k ∧ Below w.heap.size w wr) (fun _ i _ => s.size - (intOf i).toNat)
  case atStart => exact ⟨0, ⟨#[]⟩, by omega, rfl, rfl, by decide, Below.refl _ _⟩
  case round =>
    obtain ⟨k, t, hk, rfl, rfl, hts, hB⟩ := hrel
    by_cases hlt : k < s.size
    · by_cases x1 : 65 ≤ (s[k].toNat : Int)
      · have x1' : decide (65 ≤ (s[k].toNat : Int)) = true := by simp; omega
        by_cases x2 : (s[k].toNat : Int) ≤ 90
        · have x2' : decide ((s[k].toNat : Int) ≤ 90) = true := by simp; omega
          go_wp2_with fail
          go_roundw
          case rel => exact ⟨k + 1, _, by omega, by go_num, rfl, by simp [ByteArray.size_append, one_size]; omega, hB.alloc hB.size _⟩
          case measure => simp [intOf]; omega
        · have x2' : decide ((s[k].toNat : Int) ≤ 90) = false := by simp; omega
          clear x1 x2
          go_wp2_with fail
          go_roundw
          case rel => exact ⟨k + 1, _, by omega, by go_num, rfl, by simp [ByteArray.size_append, one_size]; omega, hB.alloc hB.size _⟩
          case measure => simp [intOf]; omega
      · have x1' : decide (65 ≤ (s[k].toNat : Int)) = false := by simp; omega
        clear x1
        go_wp2_with fail
        go_roundw
        case rel => exact ⟨k + 1, _, by omega, by go_num, rfl, by simp [ByteArray.size_append, one_size]; omega, hB.alloc hB.size _⟩
        case measure => simp [intOf]; omega
    · go_wp2_with fail
      go_ret
      exact ⟨_, rfl, hB⟩

/-- What 'names' leaves: two rows of five. -/
def NamesP (w : World) (e : Ending) (w' : World) : Prop :=
  ∃ a b, e = .returned (.tuple #[.slice (some ⟨a, 0, none⟩) 5 5, .slice (some ⟨b, 0, none⟩) 5 5]) ∧ Below w.heap.size w w' ∧ a < w'.heap.size ∧ b < w'.heap.size ∧
    (∀ k, k < 5 → ∃ s : ByteArray, s.size ≤ 100 ∧ w'.cell? ⟨a, k, none⟩ = some (.string s)) ∧ (∀ k, k < 5 → ∃ n, w'.cell? ⟨b, k, none⟩ = some (.int .i64 n))

set_option maxHeartbeats 4000000 in
theorem names08 (w : World) : Calls Tryz.prog 177 #[] w (NamesP w) := by
  go_enter Tryz.func177, Tryz.ntmps177
  go_wp2_with fail
  go_ret2
  refine ⟨_, _, rfl, ((Below.refl _ w).alloc (Nat.le_refl _) _).alloc (by simp) _, by simp; omega, by simp, fun k hk => ?_, fun k hk => ?_⟩
  · have hk' : k = 0 ∨ k = 1 ∨ k = 2 ∨ k = 3 ∨ k = 4 := by omega
    rcases hk' with rfl | rfl | rfl | rfl | rfl <;> exact ⟨_, by decide, cell_hp ((Below.heap_alloc _ _ _ (by simp)).trans (MapKept.heap_alloc w _).1) rfl⟩
  · have hk' : k = 0 ∨ k = 1 ∨ k = 2 ∨ k = 3 ∨ k = 4 := by omega
    rcases hk' with rfl | rfl | rfl | rfl | rfl <;> exact ⟨_, cell_hp (by rw [← World.size_alloc]; exact (MapKept.heap_alloc _ _).1) rfl⟩

set_option maxHeartbeats 8000000 in
theorem One08 (s : ByteArray) (w : World) (hs : s.size ≤ 2000) : Calls Tryz.prog 136 #[.string s] w fun e w' => ∃ v n : Int, e = .returned (.tuple #[.int .i64 v, .int .i64 n]) ∧ Below w.heap.size w w' := by
  go_enter Tryz.func136, Tryz.ntmps136
  go_wp2_with fail
  refine (names08 w).mono ?_
  rintro e w1 ⟨p, q, rfl, hB1, hp, hq, hps, hqs⟩
  have HP := Lib.hid hps
  have HQ := Lib.hid hqs
  clear hps hqs
  go_wp2_with fail
  go_loopw [6] (fun i wr => ∃ k : Nat, k ≤ 5 ∧ i = .int .i64 k ∧ Below w1.heap.size w1 wr) (fun i _ => 5 - (intOf i).toNat)
  case atStart => exact ⟨0, by omega, rfl, Below.refl _ _⟩
  case round =>
    obtain ⟨k, hk, rfl, hB⟩ := hrel
    by_cases h20 : s.size < 20
    · have h20' : decide ((s.size : Int) < 20) = true := by simp; omega
      by_cases hlt : k < 5
      · have hlt' : decide ((k : Int) < 5) = true := by simp; omega
        obtain ⟨x, hx, hxc⟩ := HP.out k hlt
        obtain ⟨n, hnc⟩ := HQ.out k hlt
        have HX : Hid (∀ W, Below w1.heap.size w1 W → W.cell? ⟨p, k, none⟩ = some (.string x) ∧ W.cell? ⟨q, k, none⟩ = some (.int .i64 n)) := Lib.hid fun W hW => ⟨(hW.cell (p := ⟨p, k, none⟩) hp).trans hxc, (hW.cell (p := ⟨q, k, none⟩) hq).trans hnc⟩
        obtain ⟨g1, g2⟩ := HX.out wr hB
        have hBd := hB.drew
        clear hxc hnc
        go_wp2_with fail
        go_region_with (go_at_call 178; refine (small08 _ _ (by omega)).mono ?_; rintro e w' ⟨t, rfl, hb⟩; have hBn : Below w1.heap.size w1 w' := Below.trans (by assumption) (Below.mono hb (Below.size (by assumption))); have hXn := HX.out _ hBn; have hXa := hXn.1; have hXb := hXn.2; clear hXn hb)
        all_goals go_wp2_with fail
        all_goals
          first
          | (go_ret2; exact ⟨_, _, rfl, hB1.trans (Below.mono (by assumption) hB1.size)⟩)
          | exact ⟨⟨k + 1, by omega, by go_num, by assumption⟩, by simp [intOf]; omega⟩
      · have hlt' : decide ((k : Int) < 5) = false := by simp; omega
        go_wp2_with fail
        go_ret2
        exact ⟨_, _, rfl, hB1.trans (hB.mono hB1.size)⟩
    · have h20' : decide ((s.size : Int) < 20) = false := by simp; omega
      by_cases hlt : k < 5
      · have hlt' : decide ((k : Int) < 5) = true := by simp; omega
        go_wp2_with fail
        go_ret2
        exact ⟨_, _, rfl, hB1.trans (hB.mono hB1.size)⟩
      · have hlt' : decide ((k : Int) < 5) = false := by simp; omega
        go_wp2_with fail
        go_ret2
        exact ⟨_, _, rfl, hB1.trans (hB.mono hB1.size)⟩

end Go.Proofs.YtjamgkcmpcnfpaaGreatDoor

namespace Go.Proofs.YtjamgkcmpcnfpaaGreatDoor
open Go.RowKit

theorem flatten_set (u : Value) : ∀ (els : List (List Value)) (k : Nat), (∀ x ∈ els, x.length = 1) → (els.set k [u]).flatten = els.flatten.set k u
  | [], _, _ => rfl
  | x :: r, 0, h => by
    match x, h x (by simp) with
    | [y], _ => rfl
  | x :: r, k + 1, h => by
    match x, h x (by simp) with
    | [y], _ =>
      rw [List.set_cons_succ, List.flatten_cons, flatten_set u r k (fun z hz => h z (by simp [hz])), List.flatten_cons]
      rfl

/-- A store into a row of one-cell elements. -/
theorem Rowed.set1 {B : Nat} {e : TypeId} {Ok : List Value → Prop} {n g cap : Nat} {W : World} (h : Rowed B e 1 Ok (.slice (some ⟨g, 0, none⟩) n cap) n W) (k : Nat) (u : Value) (hu : Ok [u]) :
    Rowed B e 1 Ok (.slice (some ⟨g, 0, none⟩) n cap) n (W.setCell ⟨g, k, none⟩ u) := by
  obtain ⟨els, h1, h2, h3, h4⟩ := h
  rcases h4 with ⟨h4, _⟩ | ⟨g', cap', cur, hv, hg, hh, hc, hm, hs, hx⟩
  · cases h4
  · simp only [Value.slice.injEq, Option.some.injEq, Addr.mk.injEq, and_true, true_and] at hv
    obtain ⟨rfl, rfl⟩ := hv
    refine ⟨els.set k [u], by simp [h1], fun x hx => ?_, by rw [flatten_set u els k (fun x hx => (h2 x hx).1), List.length_set]; exact h3, .inr ⟨g, cap, cur.setIfInBounds k u, rfl, hg, heap_set hh k u, hc, hm, by simpa using hs, ?_⟩⟩
    · rcases List.mem_or_eq_of_mem_set hx with hx | rfl
      · exact h2 x hx
      · exact ⟨rfl, hu⟩
    · rw [flatten_set u els k (fun x hx => (h2 x hx).1), ← hx, Array.toList_setIfInBounds, List.take_set]

/-- What a split leaves: a row of one text at least. -/
def SplitP (s : ByteArray) (w : World) (e : Ending) (w' : World) : Prop :=
  ∃ (v : Value) (n : Nat), e = .returned v ∧ 1 ≤ n ∧ n ≤ s.size + 1 ∧ Rowed w.heap.size 9 1 (OneStr s.size) v n w' ∧ Below w.heap.size w w'

/-- What holds ahead of a round. -/
def SplitR (s : ByteArray) (w : World) (v x : Value) (wr : World) : Prop :=
  ∃ k n : Nat, x = .int .i64 k ∧ k ≤ s.size ∧ 1 ≤ n ∧ n ≤ k + 1 ∧ Rowed w.heap.size 9 1 (OneStr k) v n wr ∧ Below w.heap.size w wr

theorem OneStr.up {a b : Nat} (h : a ≤ b) (x : List Value) (_ : x.length = 1) (hx : OneStr a x) : OneStr b x := by
  obtain ⟨s, rfl, hs⟩ := hx
  exact ⟨s, rfl, Nat.le_trans hs h⟩

theorem split_start (w : World) : Rowed w.heap.size 9 1 (OneStr 0) (.slice (some ⟨w.heap.size, 0, none⟩) 1 1) 1 (w.alloc (.cells #[.string ⟨#[]⟩] 9)) :=
  ⟨[[.string ⟨#[]⟩]], rfl, (fun x hx => by rw [List.mem_singleton.1 hx]; exact ⟨rfl, _, rfl, by decide⟩), rfl, .inr ⟨_, 1, #[.string ⟨#[]⟩], rfl, Nat.le_refl _, (MapKept.heap_alloc w _).1, Nat.le_refl _, by decide, rfl, rfl⟩⟩

set_option maxHeartbeats 8000000 in
theorem split09 (s : ByteArray) (c : Int) (w : World) (hs : s.size ≤ 2000) : Calls Tryz.prog 127 #[.string s, .int .u8 c] w (SplitP s w) := by
  obtain ⟨i0, hi, hz0, hz1, hz2⟩ := info_parts info9
  go_enter Tryz.func127, Tryz.ntmps127
  go_wp2_with fail
  go_loopw [5, 6] (fun v x wr => SplitR s w v x wr) (fun _ x _ => s.size - (intOf x).toNat)
  case atStart => exact ⟨0, 1, rfl, by omega, by omega, by omega, split_start w, (Below.refl _ _).alloc (Nat.le_refl _) _⟩
  case round =>
    obtain ⟨k, n, rfl, hk, hn1, hnk, hR, hB⟩ := hrel
    have HR := Lib.hid hR
    have HB := Lib.hid hB
    obtain ⟨g, cap, rfl, hg, hgl, hfz, hel⟩ := hR.at_ (by omega)
    have Hel := Lib.hid hel
    clear hR hB hel
    by_cases hlt : k < s.size
    · by_cases hc : (s[k].toNat : Int) = c
      · have hc' : ((s[k].toNat : Int) == c) = true := by simpa using hc
        clear hc
        go_wp2_with (at_builtin; refine wpList_append_row rfl _ _ 22 rfl w.heap.size 9 i0 (.string ⟨#[]⟩) 1 16 Tryz.underlying22 hi hz0 hz1 hz2 rfl (by decide) _ n (OneStr k) rfl (HR.out.kept ?c1) wr.heap.size [.string ⟨#[]⟩] 9 (0, 0) rfl (MapKept.heap_alloc wr _).1 rfl ⟨_, rfl, Nat.zero_le _⟩ ?c2 ?c3 (by decide) ?c4 ?_)
        case c1 => intro j hj; exact Below.heap_alloc _ _ _ (HR.out.lt j hj).2
        case c2 => intro u hu; simp at hu; subst hu; rfl
        case c3 => omega
        case c4 => have := HB.out.size; simp; omega
        intro v' w1 hR1 hgr
        have hB1 : Below w.heap.size w w1 := ((HB.out.alloc HB.out.size _).grown hgr (by have := HB.out.size; simp; omega) (fun j hj => (HR.out.lt j hj).1))
        go_wp2_with fail
        go_roundw
        case rel => exact ⟨k + 1, n + 1, by go_num, by omega, by omega, by omega, hR1.mono (OneStr.up (by omega)), hB1⟩
        case measure => simp [intOf]; omega
      · have hc' : ((s[k].toNat : Int) == c) = false := by simpa using hc
        clear hc
        obtain ⟨x, ⟨t, rfl, hts⟩, _, hcell⟩ := Hel.out (n - 1) (by omega)
        have hc1 := hcell 0 _ rfl
        rw [Nat.mul_one, Nat.add_zero] at hc1
        have hf1 := hfz (n - 1)
        obtain ⟨q, hq⟩ : ∃ q, q = n - 1 := ⟨_, rfl⟩
        have hw1 : IntKind.i64.wrap ((n : Int) - 1) = (q : Int) := by rw [IntWalk.i64_in _ (by omega)]; omega
        have hw2 : IntKind.i64.wrap ((k : Int) + 1) = (k : Int) + 1 := IntWalk.i64_in _ (by omega)
        rw [← hq] at hc1 hf1
        have hqn : q < n := by omega
        clear hq hcell hfz
        go_wp2_with fail
        refine wp_region_quiet_tail 17 (by kernel_rfl) (by kernel_rfl) ?_
        simp only [List.take_succ_cons, List.take_zero, List.drop_succ_cons, List.drop_zero]
        repeat (go_big_quiet_step (fail))
        refine wpQuiet_nil ?_
        rintro w1 ⟨m, rfl⟩
        go_wp2_with fail
        refine ⟨⟨k + 1, n, by go_num, by omega, hn1, by omega, ?_, ?_⟩, by simp [intOf]; omega⟩
        · refine Rowed.set1 ((HR.out.kept (W' := wr.drewN m) (fun _ _ => rfl)).mono (OneStr.up (by omega))) q _ ⟨_, rfl, ?_⟩
          simp [ByteArray.size_append, ByteArray.size_extract]
          omega
        · exact Below.setCell (w := wr.drewN m) (HB.out.trans ⟨rfl, rfl, rfl, Nat.le_refl _, fun _ _ => rfl⟩) (p := ⟨g, q, none⟩) hg _
    · go_wp2_with fail
      go_ret
      exact ⟨_, n, rfl, hn1, by omega, HR.out.mono (OneStr.up (by omega)), HB.out⟩

set_option maxHeartbeats 8000000 in
theorem split07 (s : ByteArray) (c : Int) (w : World) (hs : s.size ≤ 2000) : Calls Tryz.prog 129 #[.string s, .int .u8 c] w (SplitP s w) := by
  obtain ⟨i0, hi, hz0, hz1, hz2⟩ := info_parts info9
  go_enter Tryz.func129, Tryz.ntmps129
  go_wp2_with fail
  go_loopw [5, 6] (fun v x wr => SplitR s w v x wr) (fun _ x _ => s.size - (intOf x).toNat)
  case atStart => exact ⟨0, 1, rfl, by omega, by omega, by omega, split_start w, (Below.refl _ _).alloc (Nat.le_refl _) _⟩
  case round =>
    obtain ⟨k, n, rfl, hk, hn1, hnk, hR, hB⟩ := hrel
    have HR := Lib.hid hR
    have HB := Lib.hid hB
    obtain ⟨g, cap, rfl, hg, hgl, hfz, hel⟩ := hR.at_ (by omega)
    have Hel := Lib.hid hel
    clear hR hB hel
    by_cases hlt : k < s.size
    · by_cases hc : (s[k].toNat : Int) = c
      · have hc' : ((s[k].toNat : Int) == c) = true := by simpa using hc
        clear hc
        go_wp2_with (at_builtin; refine wpList_append_row rfl _ _ 22 rfl w.heap.size 9 i0 (.string ⟨#[]⟩) 1 16 Tryz.underlying22 hi hz0 hz1 hz2 rfl (by decide) _ n (OneStr k) rfl (HR.out.kept ?c1) wr.heap.size [.string ⟨#[]⟩] 9 (0, 0) rfl (MapKept.heap_alloc wr _).1 rfl ⟨_, rfl, Nat.zero_le _⟩ ?c2 ?c3 (by decide) ?c4 ?_)
        case c1 => intro j hj; exact Below.heap_alloc _ _ _ (HR.out.lt j hj).2
        case c2 => intro u hu; simp at hu; subst hu; rfl
        case c3 => omega
        case c4 => have := HB.out.size; simp; omega
        intro v' w1 hR1 hgr
        have hB1 : Below w.heap.size w w1 := ((HB.out.alloc HB.out.size _).grown hgr (by have := HB.out.size; simp; omega) (fun j hj => (HR.out.lt j hj).1))
        go_wp2_with fail
        go_roundw
        case rel => exact ⟨k + 1, n + 1, by go_num, by omega, by omega, by omega, hR1.mono (OneStr.up (by omega)), hB1⟩
        case measure => simp [intOf]; omega
      · have hc' : ((s[k].toNat : Int) == c) = false := by simpa using hc
        clear hc
        obtain ⟨x, ⟨t, rfl, hts⟩, _, hcell⟩ := Hel.out (n - 1) (by omega)
        have hc1 := hcell 0 _ rfl
        rw [Nat.mul_one, Nat.add_zero] at hc1
        have hf1 := hfz (n - 1)
        obtain ⟨q, hq⟩ : ∃ q, q = n - 1 := ⟨_, rfl⟩
        have hw1 : IntKind.i64.wrap ((n : Int) - 1) = (q : Int) := by rw [IntWalk.i64_in _ (by omega)]; omega
        have hw2 : IntKind.i64.wrap ((k : Int) + 1) = (k : Int) + 1 := IntWalk.i64_in _ (by omega)
        rw [← hq] at hc1 hf1
        have hqn : q < n := by omega
        clear hq hcell hfz
        go_wp2_with fail
        refine wp_region_quiet_tail 17 (by kernel_rfl) (by kernel_rfl) ?_
        simp only [List.take_succ_cons, List.take_zero, List.drop_succ_cons, List.drop_zero]
        repeat (go_big_quiet_step (fail))
        refine wpQuiet_nil ?_
        rintro w1 ⟨m, rfl⟩
        go_wp2_with fail
        refine ⟨⟨k + 1, n, by go_num, by omega, hn1, by omega, ?_, ?_⟩, by simp [intOf]; omega⟩
        · refine Rowed.set1 ((HR.out.kept (W' := wr.drewN m) (fun _ _ => rfl)).mono (OneStr.up (by omega))) q _ ⟨_, rfl, ?_⟩
          simp [ByteArray.size_append, ByteArray.size_extract]
          omega
        · exact Below.setCell (w := wr.drewN m) (HB.out.trans ⟨rfl, rfl, rfl, Nat.le_refl _, fun _ _ => rfl⟩) (p := ⟨g, q, none⟩) hg _
    · go_wp2_with fail
      go_ret
      exact ⟨_, n, rfl, hn1, by omega, HR.out.mono (OneStr.up (by omega)), HB.out⟩

end Go.Proofs.YtjamgkcmpcnfpaaGreatDoor

namespace Go.Proofs.YtjamgkcmpcnfpaaGreatDoor
open Go.RowKit

/-- A set and an error are returned; what was there stands. -/
def SetP (w : World) (e : Ending) (w' : World) : Prop :=
  ∃ (v : Value) (n : Nat) (m : Int), e = .returned (.tuple #[v, .int .i64 m]) ∧ n ≤ 2001 ∧ Rowed w.heap.size 64 2 TwoInts v n w' ∧ Below w.heap.size w w'

theorem SetP.no {w w' : World} (m : Int) (hb : Below w.heap.size w w') : SetP w (.returned (.tuple #[.slice none 0 0, .int .i64 m])) w' := ⟨_, 0, m, rfl, by omega, Rowed.nil _, hb⟩

/-- The world under a letter, behind a region. -/
theorem gen_exit {Q : World → Prop} {E : Exit → Act → World → Prop} {x : Exit} {a : Act} {W : World} (h : Q W) (k : ∀ W1, Q W1 → E x a W1) : E x a W := k W h

/-- A new variable of two numbers. -/
def TwoNew (w W : World) : Prop := ∃ x y : Int, W.heap[w.heap.size]? = some (.cells #[.int .i64 x, .int .i64 y] 64 (0, 0)) ∧ W.heap.size = w.heap.size + 1 ∧ Below w.heap.size w W

theorem two_new (w : World) (x y : Int) : TwoNew w (w.alloc (.cells #[.int .i64 x, .int .i64 y] 64)).drew :=
  ⟨x, y, (MapKept.heap_alloc w _).1, by show (w.alloc _).heap.size = _; simp, ((Below.refl _ w).alloc (Nat.le_refl _) _).drew⟩

/-- What holds ahead of a round. -/
def SetR (W1 : World) (v x : Value) (wr : World) : Prop :=
  ∃ k : Nat, x = .int .i64 k ∧ k ≤ 2001 ∧ Rowed W1.heap.size 64 2 TwoInts v k wr ∧ Below W1.heap.size W1 wr

set_option maxHeartbeats 16000000 in
set_option maxRecDepth 100000 in
theorem Parse09 (s : ByteArray) (w : World) (hs : s.size ≤ 2000) : Calls Tryz.prog 95 #[.string s] w (SetP w) := by
  obtain ⟨i0, hi, hz0, hz1, hz2⟩ := info_parts info64
  have hd : decide ((2000 : Int) < (s.size : Int)) = false := by simp; omega
  go_enter Tryz.func95, Tryz.ntmps95
  go_wp2_with fail
  refine (split09 s 44 w hs).mono ?_
  rintro e W1 ⟨v, n, rfl, hn1, hns, hRl, hB1⟩
  obtain ⟨g, cap, rfl, hg, hgl, _, hel⟩ := hRl.at_ (by omega)
  have Hel := Lib.hid hel
  have HB1 := Lib.hid hB1
  clear hel hRl hB1
  go_wp2_with fail
  go_loopw [4, 6] (fun v x wr => SetR W1 v x wr) (fun _ x _ => n - (intOf x).toNat)
  case atStart => exact ⟨0, rfl, by omega, Rowed.nil _, Below.refl _ _⟩
  case round =>
    obtain ⟨k, rfl, hk, hR, hB⟩ := hrel
    have HR := Lib.hid hR
    have HB := Lib.hid hB
    by_cases hlt : k < n
    · obtain ⟨x, ⟨t, rfl, hts⟩, _, hcell⟩ := Hel.out k hlt
      have hc1 := hcell 0 _ rfl
      rw [Nat.mul_one, Nat.add_zero] at hc1
      have hcr : wr.cell? ⟨g, k, none⟩ = some (.string t) := (hB.cell (p := ⟨g, k, none⟩) hgl).trans hc1
      clear hR hB hcell hc1
      go_wp2_with fail
      refine (split09 t 58 wr (by omega)).mono ?_
      rintro e w2 ⟨v2, n2, rfl, hn21, hn22, hR2, hB2⟩
      obtain ⟨g2, cap2, rfl, hg2, hgl2, _, hel2⟩ := hR2.at_ (by omega)
      have Hel2 := Lib.hid hel2
      have HB2 := Lib.hid hB2
      clear hel2 hR2 hB2 hcr
      by_cases h2 : 2 < n2
      · have h2' : decide ((2 : Int) < (n2 : Int)) = true := by simp; omega
        go_wp2_with fail
        go_ret2
        exact SetP.no _ (HB1.out.trans ((HB.out.trans (HB2.out.mono HB.out.size)).mono HB1.out.size))
      · have h2' : decide ((2 : Int) < (n2 : Int)) = false := by simp; omega
        obtain ⟨x0, ⟨t0, rfl, hts0⟩, _, hcell0⟩ := Hel2.out 0 (by omega)
        have c0 := hcell0 0 _ rfl
        obtain ⟨q, hq⟩ : ∃ q, q = n2 - 1 := ⟨_, rfl⟩
        obtain ⟨x1, ⟨t1, rfl, hts1⟩, _, hcell1⟩ := Hel2.out q (by omega)
        have c1 := hcell1 0 _ rfl
        rw [Nat.mul_one, Nat.add_zero] at c1
        have hw1 : IntKind.i64.wrap ((n2 : Int) - 1) = (q : Int) := by rw [IntWalk.i64_in _ (by omega)]; omega
        have hqn : q < n2 := by omega
        clear hq hcell0 hcell1
        go_wp2_with fail
        have hne2 : g2 ≠ w2.heap.size := by omega
        have j1 : (0 : Int) < (n2 : Int) := by omega
        have j2 : (q : Int) < (n2 : Int) := by omega
        have j3 : (0 : Int) ≤ (q : Int) := by omega
        have j4 : (q : Int).toNat = q := by omega
        have j5 : 0 < n2 := by omega
        go_region_held3 (fun w' => w'.cell? ⟨g2, 0, none⟩ = some (.string t0) ∧ w'.cell? ⟨g2, q, none⟩ = some (.string t1)) (first | exact ⟨c0, c1⟩ | go_keep)
          (first | (go_at_call 128; refine (number09 _ _ (by omega)).mono ?_; rintro e w' ⟨v, rfl, rfl⟩))
        all_goals refine gen_exit (Q := TwoNew w2) (two_new w2 _ _) ?_
        all_goals
          rintro W ⟨x, y, hW, hWs, hbW⟩
          have k0 := cell_hp hW (j := 0) (v := .int .i64 x) rfl
          have k1 := cell_hp hW (j := 1) (v := .int .i64 y) rfl
          have HRW := Lib.hid ((HR.out.step HB2.out).step (hbW : Below w2.heap.size w2 W))
          have HBL := Lib.hid (HB.out.trans ((HB2.out.trans (hbW.mono HB2.out.size)).mono HB.out.size))
          have HBW := Lib.hid (HB1.out.trans (HBL.out.mono HB1.out.size))
          clear hW hWs hbW c0 c1
          by_cases x1 : x < 0
          · have x1' : decide (x < 0) = true := by simpa using x1
            go_wp2_with fail
            go_ret2
            exact SetP.no _ HBW.out
          · have x1' : decide (x < 0) = false := by simpa using x1
            by_cases y1 : y < 0
            · have y1' : decide (y < 0) = true := by simpa using y1
              go_wp2_with fail
              go_ret2
              exact SetP.no _ HBW.out
            · have y1' : decide (y < 0) = false := by simpa using y1
              by_cases n2' : n2 = 2
              · have n2'' : ((n2 : Int) == 2) = true := by simp [n2']
                have z2 : n2 ≤ 2 := by omega
                clear n2'
                by_cases xy : x = y
                · have xy' : (x == y) = true := by simpa using xy
                  clear xy
                  go_wp2_with fail
                  go_ret2
                  exact SetP.no _ HBW.out
                · have xy' : (x == y) = false := by simpa using xy
                  clear xy
                  go_wp2_with (at_builtin; refine wpList_append_row rfl _ _ 26 rfl W1.heap.size 64 i0 (.agg #[.int .i64 0, .int .i64 0]) 2 16 Tryz.underlying26 hi hz0 hz1 hz2 rfl (by decide) _ k TwoInts rfl (HRW.out.step ((Below.refl _ W).alloc (Nat.le_refl _) _)) W.heap.size [.int .i64 x, .int .i64 y] 64 (0, 0) rfl (MapKept.heap_alloc W _).1 rfl ⟨_, _, rfl⟩ ?c1 ?c2 (by decide) ?c3 ?_)
                  case c1 => exact ⟨rfl, rfl⟩
                  case c2 => omega
                  case c3 => have := HBL.out.size; simp; omega
                  intro v' w3 hR3 hgr
                  have hB3 : Below W1.heap.size W1 w3 := ((HBL.out.alloc HBL.out.size _).grown hgr (by have := HBL.out.size; simp; omega) (fun j hj => (HRW.out.lt j hj).1))
                  go_wp2_with fail
                  go_roundw
                  case rel => exact ⟨k + 1, by go_num, by omega, hR3, hB3⟩
                  case measure => simp [intOf]; omega
              · have n2'' : ((n2 : Int) == 2) = false := by simp; omega
                go_wp2_with (at_builtin; refine wpList_append_row rfl _ _ 26 rfl W1.heap.size 64 i0 (.agg #[.int .i64 0, .int .i64 0]) 2 16 Tryz.underlying26 hi hz0 hz1 hz2 rfl (by decide) _ k TwoInts rfl (HRW.out.step ((Below.refl _ W).alloc (Nat.le_refl _) _)) W.heap.size [.int .i64 x, .int .i64 y] 64 (0, 0) rfl (MapKept.heap_alloc W _).1 rfl ⟨_, _, rfl⟩ ?c1 ?c2 (by decide) ?c3 ?_)
                case c1 => exact ⟨rfl, rfl⟩
                case c2 => omega
                case c3 => have := HBL.out.size; simp; omega
                intro v' w3 hR3 hgr
                have hB3 : Below W1.heap.size W1 w3 := ((HBL.out.alloc HBL.out.size _).grown hgr (by have := HBL.out.size; simp; omega) (fun j hj => (HRW.out.lt j hj).1))
                go_wp2_with fail
                go_roundw
                case rel => exact ⟨k + 1, by go_num, by omega, hR3, hB3⟩
                case measure => simp [intOf]; omega
    · have hkn : n ≤ k := by omega
      obtain ⟨gv, cv, rfl, _⟩ := HR.out.at_ (by omega)
      clear hR hB
      by_cases h60 : 60 < k
      · have h60' : decide ((60 : Int) < (k : Int)) = true := by simp; omega
        go_wp2_with fail
        go_ret2
        exact SetP.no _ (HB1.out.trans (HB.out.mono HB1.out.size))
      · have h60' : decide ((60 : Int) < (k : Int)) = false := by simp; omega
        go_wp2_with fail
        go_ret2
        exact ⟨_, k, _, rfl, hk, HR.out.base HB1.out.size, HB1.out.trans (HB.out.mono HB1.out.size)⟩

end Go.Proofs.YtjamgkcmpcnfpaaGreatDoor
