/-
  'try': what it reads goes on to its end; or ends in a panic of 'must'.
  Parse's parts: the reading of a line within 'try'.
  Parse, at lines that are commands.
  Parse, at the lines that the law builds: a name as an atom, quoted, as a literal; a set and a name.
-/
import Derived.Test.YtjamgkcmpcnfpaaGreatDoorS05
import Derived.Defers
import Derived.Recover
import Derived.Laws.Pointers
import Derived.RegionTactic
import Derived.ChangeAlike
set_option linter.unusedVariables false
set_option linter.unusedSimpArgs false

namespace Go.Proofs.YtjamgkcmpcnfpaaGreatDoor
open Go.RowKit

set_option maxHeartbeats 1000000 in
theorem try1_idle (p : Addr) (w : World) :
    CallsD Tryz.prog 49 #[.pointer (some p)] .returning w fun e u' w' => e = .returned (.tuple #[]) ∧ u' = .returning ∧ w' = w := by
  refine callsD_of_wpS Tryz.func49 rfl fun c₀ cs hu => ?_
  apply wpS_seq
  apply wpS_region
  simp [wpOpsS, go_sem, recoverD, hu, Tryz.ntmps49, Exit.thenS]
  refine wpS_of_wp ?_
  go_wp2
  cases c₀
  simp_all [bodyPostS, results, Tryz.results49]

theorem assert_wrong (w : World) : (Instr.typeAssert (.iface 83 (.agg #[])) 20 83 true).run Tryz.prog w = .ok (.tuple #[.agg #[], .bool true]) w := by kernel_rfl

set_option maxHeartbeats 1000000 in
set_option maxRecDepth 100000 in
theorem try1_wrong (p : Addr) (x : Bool) (w : World) (hc : w.cell? p = some (.bool x)) (hz : w.frozen? p = false) :
    CallsD Tryz.prog 49 #[.pointer (some p)] (.panicking [{ v := .iface 83 (.agg #[]), recovered := false }]) w fun e u' w' =>
      e = .returned (.tuple #[]) ∧ u' = .panicking [{ v := .iface 83 (.agg #[]), recovered := true }] ∧ w' = (w.alloc (.cells #[] 83)).setCell p (.bool false) := by
  have hlt := World.block_lt_of_cell? _ _ hc
  have hc1 : (w.alloc (.cells #[] 83)).cell? p = some (.bool x) := (World.cell?_alloc_lt _ _ _ hlt).trans hc
  have hz1 : (w.alloc (.cells #[] 83)).frozen? p = false := (World.frozen?_alloc_old _ _ _ (by omega)).trans hz
  have hta := assert_wrong
  refine callsD_of_wpS Tryz.func49 rfl fun c₀ cs hu => ?_
  apply wpS_seq
  apply wpS_region
  simp [wpOpsS, go_sem, recoverD, hu, Tryz.ntmps49, Exit.thenS]
  refine wpS_of_wp ?_
  go_wp2
  cases c₀
  simp_all [bodyPostS, results, Tryz.results49]

set_option maxHeartbeats 1000000 in
set_option maxRecDepth 100000 in
/-- What is read goes on to its end. -/
theorem try_yes (f : FuncId) (cap : Array Value) (he : ∀ args w, (callFunc f args).run Tryz.prog w = .ok (.enter f args) w) (w : World) (R : World → Prop)
    (hr : Calls Tryz.prog f cap (w.alloc (.cells #[.bool false] 4)) fun e w' => e = .returned (.tuple #[]) ∧ w'.heap[w.heap.size]? = some (.cells #[.bool false] 4 (0, 0)) ∧ R (w'.setCell ⟨w.heap.size, 0, none⟩ (.bool true))) :
    Calls Tryz.prog 22 #[.func (.func f) #[] cap] w fun e w' => e = .returned (.bool true) ∧ R w' := by
  have hmf : ∀ (fn : Fn) (first cap : Array Value) (w : World), (Instr.makeFunc fn first cap).run Tryz.prog w = .ok (.func fn first cap) w := fun _ _ _ _ => rfl
  have Hr := Lib.hid hr; clear hr
  go_enter_defers Tryz.func22, Tryz.ntmps22
  go_wp2_with fail
  refine Hr.out.mono ?_
  rintro e w1 ⟨rfl, hb, hR⟩
  have c0 := cell_of_block hb
  have f0 := frozen_of_block hb
  have hb2 := heap_setCell_same w1 w.heap.size 0 _ 4 (.bool true) hb
  have Hb2 := Lib.hid (cell_of_block (v := .bool true) hb2)
  clear hb hb2
  go_wp2_with fail
  refine leaves_cons (f := 49) (args := #[.pointer (some ⟨w.heap.size, 0, none⟩)]) (by simp) (by simp [go_sem]) ?_
  refine (try1_idle ⟨w.heap.size, 0, none⟩ _).mono ?_
  rintro e u' w'' ⟨rfl, rfl, rfl⟩
  have hb3 := Hb2.out
  simp [Leaves, settle, results, Tryz.results22, go_sem, hb3]
  exact hR

set_option maxHeartbeats 1000000 in
set_option maxRecDepth 100000 in
/-- What is read ends in a panic of 'must'. -/
theorem try_no (f : FuncId) (cap : Array Value) (he : ∀ args w, (callFunc f args).run Tryz.prog w = .ok (.enter f args) w) (w : World) (R : World → Prop)
    (hr : Calls Tryz.prog f cap (w.alloc (.cells #[.bool false] 4)) fun e w' => e = Wrong ∧ w'.heap[w.heap.size]? = some (.cells #[.bool false] 4 (0, 0)) ∧ R ((w'.alloc (.cells #[] 83)).setCell ⟨w.heap.size, 0, none⟩ (.bool false))) :
    Calls Tryz.prog 22 #[.func (.func f) #[] cap] w fun e w' => e = .returned (.bool false) ∧ R w' := by
  have hmf : ∀ (fn : Fn) (first cap : Array Value) (w : World), (Instr.makeFunc fn first cap).run Tryz.prog w = .ok (.func fn first cap) w := fun _ _ _ _ => rfl
  have Hr := Lib.hid hr; clear hr
  go_enter_defers Tryz.func22, Tryz.ntmps22
  go_wp2_with fail
  refine Hr.out.mono ?_
  rintro e w1 ⟨rfl, hb, hR⟩
  have c0 := cell_of_block hb
  have f0 := frozen_of_block hb
  have hlt := World.block_lt_of_cell? _ _ c0
  have hb2 : (w1.alloc (.cells #[] 83)).heap[w.heap.size]? = some (.cells #[.bool false] 4 (0, 0)) := (heap_alloc_lt _ _ _ hlt).trans hb
  have Hb2 := Lib.hid (cell_of_block (v := .bool false) (heap_setCell_same _ w.heap.size 0 _ 4 (.bool false) hb2))
  clear hb hb2
  go_wp2_with fail
  refine leaves_cons (f := 49) (args := #[.pointer (some ⟨w.heap.size, 0, none⟩)]) (by simp) (by simp [go_sem]) ?_
  refine (try1_wrong ⟨w.heap.size, 0, none⟩ false _ c0 f0).mono ?_
  rintro e u' w'' ⟨rfl, rfl, rfl⟩
  have hb3 := Hb2.out
  simp [Leaves, settle, results, Tryz.results22, go_sem, hb3]
  exact hR

end Go.Proofs.YtjamgkcmpcnfpaaGreatDoor

namespace Go.Proofs.YtjamgkcmpcnfpaaGreatDoor
open Go.RowKit

set_option maxHeartbeats 400000 in
theorem long_no (s : ByteArray) (w : World) (h : s.size ≤ 2000) : Calls Tryz.prog 20 #[.string s] w fun e w' => e = .returned (.bool false) ∧ w = w' := by
  have h' : decide ((2000 : Int) < (s.size : Int)) = false := by simp; omega
  go_enter Tryz.func20, Tryz.ntmps20
  go_wp2
  go_ret
  exact ⟨rfl, rfl⟩

set_option maxHeartbeats 1000000 in
theorem IndexFunc_long (b o n c : Nat) (parts : List ByteArray) (w : World) (hn : n = parts.length) (hmax : n ≤ 100)
    (hc : ∀ j, j < n → w.cell? ⟨b, o + j, none⟩ = some (.string (parts.getD j ByteArray.empty))) (hl : ∀ j, j < n → (parts.getD j ByteArray.empty).size ≤ 2000) :
    Calls Tryz.prog 48 #[.slice (some ⟨b, o, none⟩) n c, .func (.func 20) #[] #[]] w fun e w' => e = .returned (.int .i64 (-1)) ∧ w = w' := by
  have Hc := Lib.hid hc; clear hc
  have Hl := Lib.hid hl; clear hl
  clear hn
  go_enter Tryz.func48, Tryz.ntmps48
  go_wp2_with fail
  go_loop [8] (fun i => ∃ k : Nat, k ≤ n ∧ i = .int .i64 k) (fun i => n - (intOf i).toNat)
  case atStart => exact ⟨0, by omega, rfl⟩
  case round =>
    obtain ⟨k, hk, rfl⟩ := hrel
    by_cases hlt : k < n
    · have hc0 := Hc.out k hlt
      have hl0 := Lib.hid (Hl.out k hlt)
      generalize parts.getD k ByteArray.empty = s at *
      go_wp2_with fail
      refine (long_no _ _ hl0.out).mono ?_
      rintro e w1 ⟨rfl, rfl⟩
      go_wp2_with fail
      go_round
      case rel => exact ⟨k + 1, by omega, by go_num⟩
      case measure => simp [intOf]; omega
    · go_wp2_with fail
      go_ret
      exact ⟨rfl, rfl⟩

set_option maxHeartbeats 1000000 in
theorem ContainsFunc_long (b o n c : Nat) (parts : List ByteArray) (w : World) (hn : n = parts.length) (hmax : n ≤ 100)
    (hc : ∀ j, j < n → w.cell? ⟨b, o + j, none⟩ = some (.string (parts.getD j ByteArray.empty))) (hl : ∀ j, j < n → (parts.getD j ByteArray.empty).size ≤ 2000) :
    Calls Tryz.prog 21 #[.slice (some ⟨b, o, none⟩) n c, .func (.func 20) #[] #[]] w fun e w' => e = .returned (.bool false) ∧ w = w' := by
  have Hc := Lib.hid (IndexFunc_long b o n c parts w hn hmax hc hl)
  clear hc hl hn
  go_enter Tryz.func21, Tryz.ntmps21
  go_wp2_with fail
  refine Hc.out.mono ?_
  rintro e w1 ⟨rfl, rfl⟩
  go_wp2_with fail
  go_ret
  exact ⟨rfl, rfl⟩

/-- The world in which 'try' is called: the command's variable, the parser, the variable that holds its address. -/
structure PW (w : World) (p0 : ByteArray) (rv : Value) (pb g : Nat) (W : World) : Prop where
  x : W.heap[w.heap.size]? = some (.cells zeroCmd 31 (0, 0))
  p : W.heap[pb]? = some (.cells #[PP g] 49 (0, 0))
  a : At g W p0 rv (.slice none 0 0)
  below : Below w.heap.size w W
  size : W.heap.size = w.heap.size + 3
  at_ : (pb = w.heap.size + 1 ∧ g = w.heap.size + 2) ∨ (pb = w.heap.size + 2 ∧ g = w.heap.size + 1)

theorem At.of_block {g : Nat} {w : World} {t : ByteArray} {rv kv : Value} {ty : TypeId} (h : w.heap[g]? = some (.cells #[.string t, rv, kv] ty (0, 0))) : At g w t rv kv :=
  ⟨cells_at h rfl, cells_at h rfl, cells_at h rfl, Lib.frozen_of_heap h 0, Lib.frozen_of_heap h 1, Lib.frozen_of_heap h 2⟩

theorem pw_a (w : World) (p0 : ByteArray) (rv : Value) : PW w p0 rv (w.heap.size + 1) (w.heap.size + 2)
    (((w.alloc (.cells zeroCmd 31)).alloc (.cells #[.pointer (some ⟨w.heap.size + 2, 0, none⟩)] 49)).alloc (.cells #[.string p0, rv, .slice none 0 0] 51)).drew := by
  refine ⟨?_, ?_, At.drew (At.of_block (ty := 51) ?_), ?_, by simp, .inl ⟨rfl, rfl⟩⟩
  · show (((w.alloc _).alloc _).alloc _).heap[_]? = _
    rw [heap_alloc_lt _ _ _ (by simp only [World.size_alloc]; omega), heap_alloc_lt _ _ _ (by simp only [World.size_alloc]; omega), heap_alloc_at _ _ _ rfl]
  · show (((w.alloc _).alloc _).alloc _).heap[_]? = _
    rw [heap_alloc_lt _ _ _ (by simp only [World.size_alloc]; omega), heap_alloc_at _ _ _ (by simp only [World.size_alloc])]
  · rw [heap_alloc_at _ _ _ (by simp only [World.size_alloc])]
  · exact ((((Below.refl _ w).alloc (by omega) _).alloc (by simp only [World.size_alloc]; omega) _).alloc (by simp only [World.size_alloc]; omega) _).drew

theorem pw_b (w : World) (p0 : ByteArray) (rv : Value) : PW w p0 rv (w.heap.size + 2) (w.heap.size + 1)
    (((w.alloc (.cells zeroCmd 31)).alloc (.cells #[.string p0, rv, .slice none 0 0] 51)).alloc (.cells #[.pointer (some ⟨w.heap.size + 1, 0, none⟩)] 49)).drew := by
  refine ⟨?_, ?_, At.drew (At.alloc (At.of_block (ty := 51) ?_) _), ?_, by simp, .inr ⟨rfl, rfl⟩⟩
  · show (((w.alloc _).alloc _).alloc _).heap[_]? = _
    rw [heap_alloc_lt _ _ _ (by simp only [World.size_alloc]; omega), heap_alloc_lt _ _ _ (by simp only [World.size_alloc]; omega), heap_alloc_at _ _ _ rfl]
  · show (((w.alloc _).alloc _).alloc _).heap[_]? = _
    rw [heap_alloc_at _ _ _ (by simp only [World.size_alloc])]
  · rw [heap_alloc_at _ _ _ (by simp only [World.size_alloc])]
  · exact ((((Below.refl _ w).alloc (by omega) _).alloc (by simp only [World.size_alloc]; omega) _).alloc (by simp only [World.size_alloc]; omega) _).drew

/-- What the reading of a line gives. -/
def Gives (p0 : ByteArray) (rv : Value) (w : World) (C : Array Value → Prop) (R : Array Value → World → Prop) : Prop :=
  ∀ g w1, w.heap.size ≤ g → At g w1 p0 rv (.slice none 0 0) → Below w.heap.size w w1 → w1.heap.size = w.heap.size + 4 →
    Calls Tryz.prog 24 #[PP g] w1 fun e w' => ∃ cs, e = .returned (.agg cs) ∧ C cs ∧ Done g (.slice none 0 0) w' ∧ Kept2 g w1.heap.size w1 w' ∧ R cs w'

set_option maxHeartbeats 2000000 in
set_option maxRecDepth 100000 in
theorem Parse2_ok (p0 : ByteArray) (rv : Value) (pb g : Nat) (w W : World) (hW : PW w p0 rv pb g W) (C : Array Value → Prop) (hC : ∀ cs, C cs → cs.size = 15 ∧ cs.all (·.oneCell') = true) (R : Array Value → World → Prop) (hG : Gives p0 rv w C R) :
    Calls Tryz.prog 23 #[.pointer (some ⟨pb, 0, none⟩), .pointer (some ⟨w.heap.size, 0, none⟩)] (W.alloc (.cells #[.bool false] 4)) fun e w' => ∃ cs w2, e = .returned (.tuple #[]) ∧ w' = w2.setRow w.heap.size cs ∧ C cs ∧ R cs w2 ∧
      Kept2 g (w.heap.size + 4) (W.alloc (.cells #[.bool false] 4)) w2 := by
  have hat := hW.at_
  have hsz := hW.size
  have hpb := cell_of_block ((heap_alloc_lt W (.cells #[.bool false] 4) pb (by omega)).trans hW.p)
  have hx0 := (heap_alloc_lt W (.cells #[.bool false] 4) w.heap.size (by omega)).trans hW.x
  have hg' := hG g (W.alloc (.cells #[.bool false] 4)) (by omega) (hW.a.alloc _) (hW.below.alloc (by omega) _) (by simp [hsz])
  have e4 : (W.alloc (.cells #[.bool false] 4)).heap.size = w.heap.size + 4 := by simp [hsz]
  rw [e4] at hg'
  have HG := Lib.hid hg'; clear hg'
  have Hx := Lib.hid hx0; clear hx0
  have HC := Lib.hid hC; clear hC
  have Hat := Lib.hid hat; clear hat
  have Hsz := Lib.hid e4; clear e4 hsz
  generalize W.alloc (.cells #[.bool false] 4) = W4 at *
  clear hW hG
  go_enter Tryz.func23, Tryz.ntmps23
  go_wp2_with fail
  refine HG.out.mono ?_
  rintro e w2 ⟨cs, rfl, hCs, _, hK, hR⟩
  obtain ⟨h15, hone⟩ := HC.out cs hCs
  have h2 := Lib.hid ((hK.block w.heap.size (by rw [Hsz.out]; omega) (by have := Hat.out; omega) (by omega)).trans Hx.out)
  have Hone := Lib.hid hone; clear hone
  have hi : (Tryz.prog.info? 31).map (·.size) = some cs.size := by rw [h15]; kernel_rfl
  have hz : zeroCmd.size = cs.size := by rw [h15]; rfl
  have Hz := Lib.hid hz; clear hz h15
  go_wp2_with (refine wpList_store_row rfl 31 _ _ rfl w.heap.size cs rfl rfl 31 zeroCmd h2.out hi Hz.out Hone.out ?_)
  exact ⟨rfl, _, results_none rfl _ _ _, rfl, cs, w2, rfl, hCs, hR, hK⟩

end Go.Proofs.YtjamgkcmpcnfpaaGreatDoor

namespace Go.Proofs.YtjamgkcmpcnfpaaGreatDoor
open Go.RowKit

/-- What is said of the command's memory stands whatever happens to the call's first blocks. -/
def Stays (B : Nat) (R : Array Value → World → Prop) : Prop := ∀ cs W W', R cs W → (∀ k, B ≤ k → W'.heap[k]? = W.heap[k]?) → R cs W'

theorem parse_try (p0 : ByteArray) (rv : Value) (pb g : Nat) (w W : World) (hW : PW w p0 rv pb g W) (C : Array Value → Prop) (hC : ∀ cs, C cs → cs.size = 15 ∧ cs.all (·.oneCell') = true) (R : Array Value → World → Prop) (hS : Stays (w.heap.size + 4) R) (hG : Gives p0 rv w C R) :
    Calls Tryz.prog 22 #[.func (.func 23) #[] #[.pointer (some ⟨pb, 0, none⟩), .pointer (some ⟨w.heap.size, 0, none⟩)]] W fun e w' => e = .returned (.bool true) ∧ ∃ cs, w'.heap[w.heap.size]? = some (.cells cs 31 (0, 0)) ∧ C cs ∧ Below w.heap.size w w' ∧ R cs w' := by
  have hat := hW.at_
  have hsz := hW.size
  have e4 : (W.alloc (.cells #[.bool false] 4)).heap.size = w.heap.size + 4 := by simp [hsz]
  refine try_yes 23 _ (enters_of Tryz.func23 (by kernel_rfl) rfl) W _ ((Parse2_ok p0 rv pb g w W hW C hC R hG).mono ?_)
  rintro e w' ⟨cs, w2, rfl, rfl, hCs, hR, hK⟩
  have h3 : w2.heap[W.heap.size]? = some (.cells #[.bool false] 4 (0, 0)) := (hK.block _ (by simp) (by omega) (by omega)).trans (heap_alloc_at _ _ _ rfl)
  have h0 : w2.heap[w.heap.size]? = some (.cells zeroCmd 31 (0, 0)) := (hK.block _ (by omega) (by omega) (by omega)).trans ((heap_alloc_lt _ _ _ (by omega)).trans hW.x)
  refine ⟨rfl, (setRow_other _ _ _ _ (by omega)).trans h3, cs, ?_, hCs, ?_, ?_⟩
  · rw [setCell_heap_loop (by simp only []; omega)]; exact setRow_heap _ _ _ _ _ _ h0
  · have hb := hW.below
    refine (hb.trans ((hK.below (B := w.heap.size) (by omega) (by omega) (by omega)) |> fun k => ((Below.refl _ W).alloc (by omega) _).trans k)).trans ?_
    refine ⟨rfl, rfl, rfl, by simp [World.setCell], fun k hk => ?_⟩
    rw [setCell_heap_loop (by simp only []; omega), setRow_other _ _ _ _ (by omega)]
  · refine hS cs w2 _ hR (fun k hk => ?_)
    rw [setCell_heap_loop (by simp only []; omega), setRow_other _ _ _ _ (by omega)]

theorem results_parse {tmps : Array Value} {w : World} {g : Nat} {cs : Array Value} {v : Value} (hp : tmps.getD 2 undef = .pointer (some ⟨g, 0, none⟩)) (hv : tmps.getD 3 undef = v)
    (hg : w.heap[g]? = some (.cells cs 31 (0, 0))) (hi : (Tryz.prog.info? 31).map (·.size) = some cs.size) : (results Tryz.f10 tmps).run Tryz.prog w = .ok (.tuple #[.agg cs, v]) w := by
  have hp' : tmps[2]?.getD undef = .pointer (some ⟨g, 0, none⟩) := by simpa using hp
  have hv' : tmps[3]?.getD undef = v := by simpa using hv
  simp [results, Tryz.results10, hp', hv', asAddr, run_loadVar_row w g 31 31 cs (0, 0) _ hg Tryz.underlying31 rfl hi]

set_option maxHeartbeats 4000000 in
set_option maxRecDepth 100000 in
/-- Parse, at a line that is read to its end. -/
theorem Parse_ok (b o n c : Nat) (parts : List ByteArray) (p0 : ByteArray) (w : World) (hn : n = parts.length) (hmax : n ≤ 9) (hodd : n % 2 = 1) (hnc : n ≤ c) (hcm : c ≤ 1000)
    (hc : ∀ j, j < n → w.cell? ⟨b, o + j, none⟩ = some (.string (parts.getD j ByteArray.empty))) (hl : ∀ j, j < n → (parts.getD j ByteArray.empty).size ≤ 2000) (h0 : parts.getD 0 ByteArray.empty = p0)
    (C : Array Value → Prop) (hC : ∀ cs, C cs → cs.size = 15 ∧ cs.all (·.oneCell') = true) (R : Array Value → World → Prop) (hS : Stays (w.heap.size + 4) R)
    (hG : Gives p0 (.slice (if c = 1 then some ⟨b, o, none⟩ else some ⟨b, o + 1, none⟩) (n - 1) (c - 1)) w C R) :
    Calls Tryz.prog 10 #[.slice (some ⟨b, o, none⟩) n c] w fun e w' => ∃ cs, e = .returned (.tuple #[.agg cs, .int .i64 0]) ∧ C cs ∧ Below w.heap.size w w' ∧ R cs w' := by
  have hb0 : b < w.heap.size := World.block_lt_of_cell? _ _ (hc 0 (by omega))
  have hc0 := (World.cell?_alloc_lt w (.cells zeroCmd 31) ⟨b, o + 0, none⟩ hb0).trans (hc 0 (by omega))
  rw [h0, Nat.add_zero] at hc0
  have hCF := ContainsFunc_long b o n c parts (w.alloc (.cells zeroCmd 31)) hn (by omega) (fun j hj => (World.cell?_alloc_lt _ _ ⟨b, o + j, none⟩ hb0).trans (hc j hj)) hl
  have HCF := Lib.hid hCF; clear hCF
  have Hc := Lib.hid hc; clear hc
  have Hl := Lib.hid hl; clear hl
  have HC := Lib.hid hC; clear hC
  have HS := Lib.hid hS; clear hS
  have hodd' : ((n : Int) % 2 == 0) = false := by rw [beq_eq_false_iff_ne]; omega
  have hmf : ∀ (fn : Fn) (first cap : Array Value) (w : World), (Instr.makeFunc fn first cap).run Tryz.prog w = .ok (.func fn first cap) w := fun _ _ _ _ => rfl
  clear hn h0
  by_cases hc1 : c = 1
  · subst hc1
    have : n = 1 := by omega
    subst this
    have HG : Hid (Gives p0 (.slice (some ⟨b, o, none⟩) 0 0) w C R) := Lib.hid (by simpa using hG)
    clear hG
    go_enter Tryz.func10, Tryz.ntmps10
    go_wp2_with fail
    refine HCF.out.mono ?_
    rintro e w1 ⟨rfl, rfl⟩
    go_wp2_with fail
    go_region
    all_goals go_wp2_with fail
    all_goals
      first
      | (refine (parse_try p0 _ (w.heap.size + 1) (w.heap.size + 2) w _ (pw_a w p0 _) C HC.out R HS.out HG.out).mono ?_)
      | (refine (parse_try p0 _ (w.heap.size + 2) (w.heap.size + 1) w _ (pw_b w p0 _) C HC.out R HS.out HG.out).mono ?_)
      rintro e w5 ⟨rfl, cs, hx, hCs, hB, hR⟩
      obtain ⟨h15, hone⟩ := HC.out cs hCs
      have Hx := Lib.hid hx; clear hx
      have Hone := Lib.hid hone; clear hone
      have hi : (Tryz.prog.info? 31).map (·.size) = some cs.size := by rw [h15]; kernel_rfl
      clear h15
      go_wp2_with (first | (refine wpList_load_row rfl 31 _ rfl w.heap.size rfl 31 cs (0, 0) _ Hx.out Tryz.underlying31 rfl hi ?_) | (refine wpList_store_row rfl 31 _ _ rfl w.heap.size cs rfl rfl 31 cs Hx.out hi rfl Hone.out ?_; rw [setRow_self _ _ _ _ _ Hx.out]))
      exact bodyPost_ret (results_parse rfl rfl Hx.out hi) rfl ⟨cs, rfl, hCs, hB, hR⟩
  · rw [if_neg hc1] at hG
    have HG := Lib.hid hG; clear hG
    go_enter Tryz.func10, Tryz.ntmps10
    go_wp2_with fail
    refine HCF.out.mono ?_
    rintro e w1 ⟨rfl, rfl⟩
    go_wp2_with fail
    go_region
    all_goals go_wp2_with fail
    all_goals
      first
      | (refine (parse_try p0 _ (w.heap.size + 1) (w.heap.size + 2) w _ (pw_a w p0 _) C HC.out R HS.out HG.out).mono ?_)
      | (refine (parse_try p0 _ (w.heap.size + 2) (w.heap.size + 1) w _ (pw_b w p0 _) C HC.out R HS.out HG.out).mono ?_)
      rintro e w5 ⟨rfl, cs, hx, hCs, hB, hR⟩
      obtain ⟨h15, hone⟩ := HC.out cs hCs
      have Hx := Lib.hid hx; clear hx
      have Hone := Lib.hid hone; clear hone
      have hi : (Tryz.prog.info? 31).map (·.size) = some cs.size := by rw [h15]; kernel_rfl
      clear h15
      go_wp2_with (first | (refine wpList_load_row rfl 31 _ rfl w.heap.size rfl 31 cs (0, 0) _ Hx.out Tryz.underlying31 rfl hi ?_) | (refine wpList_store_row rfl 31 _ _ rfl w.heap.size cs rfl rfl 31 cs Hx.out hi rfl Hone.out ?_; rw [setRow_self _ _ _ _ _ Hx.out]))
      exact bodyPost_ret (results_parse rfl rfl Hx.out hi) rfl ⟨cs, rfl, hCs, hB, hR⟩

end Go.Proofs.YtjamgkcmpcnfpaaGreatDoor

namespace Go.Proofs.YtjamgkcmpcnfpaaGreatDoor
open Go.RowKit

/-- The flags' names and bits. -/
def namedC : Array Value :=
  #[.string ⟨#[92, 65, 110, 115, 119, 101, 114, 101, 100]⟩, .int .i64 2, .string ⟨#[92, 70, 108, 97, 103, 103, 101, 100]⟩, .int .i64 4, .string ⟨#[92, 68, 101, 108, 101, 116, 101, 100]⟩, .int .i64 8,
    .string ⟨#[92, 83, 101, 101, 110]⟩, .int .i64 1, .string ⟨#[92, 68, 114, 97, 102, 116]⟩, .int .i64 16]

/-- What the walks ask of the memory that was there at the start. -/
structure Env (B : Nat) (w : World) : Prop where
  four : 4 < B
  le : B ≤ w.heap.size
  m : ∃ m, w.cell? ⟨4, 0, none⟩ = some (.int .i64 m)
  look : ∃ bm, ∀ W, Below B w W → Look bm W
  nine : 9 < B
  flags : ∃ t fr, w.heap[9]? = some (.cells namedC t fr)

theorem Env.step {B : Nat} {w w' : World} (h : Env B w) (hb : Below B w w') : Env B w' := by
  obtain ⟨m, hm⟩ := h.m
  obtain ⟨bm, hl⟩ := h.look
  obtain ⟨t, fr, hf⟩ := h.flags
  exact ⟨h.four, Nat.le_trans h.le hb.size, ⟨m, (hb.cell (p := ⟨4, 0, none⟩) h.four).trans hm⟩, ⟨bm, fun W hW => hl W (hb.trans hW)⟩, h.nine, ⟨t, fr, (hb.block 9 h.nine).trans hf⟩⟩

theorem Env.kept {B g : Nat} {w w' : World} (h : Env B w) (hk : Kept g w w') (hg : B ≤ g) : Env B w' := h.step (hk.below hg h.le)

theorem atomOr_nil (c : Int) : atomOr [] c = atomB c := by
  unfold atomOr
  have : decide (0 ≤ Lib.indexByte [] c.toNat.toUInt8) = false := rfl
  rw [this, Bool.or_false]

theorem box_atom (B g : Nat) (s : ByteArray) (a : Option Addr) (c : Nat) (kv : Value) (w : World) (hE : Env B w) (hg : B ≤ g) (hA : At g w ⟨s.data.toList.toArray⟩ (.slice a 0 c) kv) (h : NameOk s) (hne : s.data.toList ≠ []) (hat : allB atomB s.data.toList = true) :
    Calls Tryz.prog 81 #[PP g] w fun e w' => e = .returned (.string ⟨(cleanL s.data.toList).toArray⟩) ∧ Done g kv w' ∧ Kept g w w' := by
  obtain ⟨m, hm⟩ := hE.m
  have hat' : allB (atomOr []) s.data.toList = true := by
    unfold allB at hat ⊢; rw [List.all_eq_true] at hat ⊢; intro x hx; rw [atomOr_nil]; exact hat x hx
  have e0 : (⟨s.data.toList.toArray⟩ : ByteArray) = s := ext_list s _ rfl
  have hS := str_atom g ⟨s.data.toList.toArray⟩ ⟨#[]⟩ s.data.toList [] a 0 c kv w hA (by simp) (by rw [e0]; have := h.formed.size; omega) hne hat' rfl (by decide)
  rw [e0] at hS
  refine (box_of g s m w (fun w' => At g w' ⟨#[]⟩ (.slice a 0 c) kv ∧ Kept g w w') hS (fun w' hq => hq.2) hm (by have := hE.four; omega) h).mono ?_
  rintro e w' ⟨rfl, w1, ⟨hA1, hK1⟩, hB1⟩
  exact ⟨rfl, ⟨a, c, hA1.of_below hB1 hA1.lt⟩, hK1.andBelow hB1 hK1.size⟩

theorem box_quoted (B g : Nat) (s t : ByteArray) (a : Option Addr) (c : Nat) (kv : Value) (w : World) (hE : Env B w) (hg : B ≤ g) (hA : At g w t (.slice a 0 c) kv) (ht : t.data.toList = 34 :: (s.data.toList ++ [34])) (h : NameOk s) (hq : allB qB s.data.toList = true) :
    Calls Tryz.prog 81 #[PP g] w fun e w' => e = .returned (.string ⟨(cleanL s.data.toList).toArray⟩) ∧ Done g kv w' ∧ Kept g w w' := by
  obtain ⟨m, hm⟩ := hE.m
  have hS := str_quoted g t ⟨#[]⟩ s.data.toList [] (.slice a 0 c) kv w hA ht (by rw [size_bytes, ht]; have := h.formed.size; simp only [List.length_cons, List.length_append, List.length_nil]; rw [← size_bytes]; omega) hq
  have e0 : (⟨s.data.toList.toArray⟩ : ByteArray) = s := ext_list s _ rfl
  rw [e0] at hS
  refine (box_of g s m w (fun w' => At g w' ⟨#[]⟩ (.slice a 0 c) kv ∧ Kept g w w') hS (fun w' hq => hq.2) hm (by have := hE.four; omega) h).mono ?_
  rintro e w' ⟨rfl, w1, ⟨hA1, hK1⟩, hB1⟩
  exact ⟨rfl, ⟨a, c, hA1.of_below hB1 hA1.lt⟩, hK1.andBelow hB1 hK1.size⟩

theorem box_literal (B g : Nat) (s t : ByteArray) (rb ro c : Nat) (kv : Value) (w : World) (hE : Env B w) (hg : B ≤ g) (hA : At g w t (.slice (some ⟨rb, ro, none⟩) 2 c) kv) (ht : t.data.toList = []) (hc : 2 ≤ c) (hmax : c ≤ 9223372036854775807)
    (hr0 : w.cell? ⟨rb, ro, none⟩ = some (.string s)) (hr1 : w.cell? ⟨rb, ro + 1, none⟩ = some (.string ⟨#[]⟩)) (hne : rb ≠ g) (h : NameOk s) :
    Calls Tryz.prog 81 #[PP g] w fun e w' => e = .returned (.string ⟨(cleanL s.data.toList).toArray⟩) ∧ Done g kv w' ∧ Kept g w w' := by
  obtain ⟨m, hm⟩ := hE.m
  have hS := str_literal g t ⟨#[]⟩ s ⟨#[]⟩ rb ro 2 c kv w hA ht (Nat.le_refl _) hc hmax hr0 hr1 hne
  refine (box_of g s m w (fun w' => (∃ a', At g w' ⟨#[]⟩ (.slice a' 0 (c - 2)) kv) ∧ Kept g w w') hS (fun w' hq => hq.2) hm (by have := hE.four; omega) h).mono ?_
  rintro e w' ⟨rfl, w1, ⟨⟨a', hA1⟩, hK1⟩, hB1⟩
  exact ⟨rfl, ⟨a', c - 2, hA1.of_below hB1 hA1.lt⟩, hK1.andBelow hB1 hK1.size⟩

/-- A command's cells. -/
def cmdC (tag : List UInt8) (op : Int) (cl : ByteArray) (sv : Value) : Array Value :=
  #[.string ⟨tag.toArray⟩, .int .i64 op, .bool false, .string cl, .string ⟨#[]⟩, sv, .int .i64 0, .bool false, .int .i64 0, .int .i64 0, .int .i64 0, .string ⟨#[]⟩, .slice none 0 0, .slice none 0 0, .slice none 0 0]

/-- A tag that a command may have. -/
structure TagOk (tag : List UInt8) : Prop where
  ne : tag ≠ []
  all : allB (atomOr [93]) tag = true
  len : tag.length ≤ 40
  plus : Lib.indexByte tag 43 < 0

/-- The name of a command. -/
structure OpOk (nm : List UInt8) (op : Int) : Prop where
  ne : nm ≠ []
  all : allB nameB nm = true
  look : (smallL nm, op) ∈ opsT
  op : op ≠ 0
  uid : smallL nm ≠ [117, 105, 100]

set_option maxRecDepth 10000 in
/-- What the reading gives at a command that takes a name alone. -/
theorem gives_box (B : Nat) (p0 : ByteArray) (tag nm r : List UInt8) (op : Int) (cl : ByteArray) (rv : Value) (w : World) (hE : Env B w) (hp : p0.data.toList = tag ++ 32 :: (nm ++ 32 :: r)) (hs : p0.size ≤ 2000)
    (hT : TagOk tag) (hO : OpOk nm op) (hop : op = 5 ∨ op = 7 ∨ op = 8 ∨ op = 10)
    (hBox : ∀ g w1, w.heap.size ≤ g → At g w1 ⟨r.toArray⟩ rv (.slice none 0 0) → Below w.heap.size w w1 → Calls Tryz.prog 81 #[PP g] w1 fun e w' => e = .returned (.string cl) ∧ Done g (.slice none 0 0) w' ∧ Kept g w1 w') :
    Gives p0 rv w (fun cs => cs = cmdC tag op cl (.slice none 0 0)) (fun _ _ => True) := by
  intro g w1 hg hA hb hsz
  obtain ⟨bm, hl⟩ := hE.look
  refine command_plain g bm p0 tag nm (32 :: r) op rv _ w1 hA hp (by omega) hT.ne hT.all hT.len hT.plus hO.ne hO.all rfl hO.look hO.op hO.uid (fun W hW => hl W ((hb.mono hE.le).trans (hW.below (Nat.le_trans hE.le hg) (by have := hE.le; omega) (by have := hE.le; omega))))
    _ (by rintro cs rfl; exact ⟨rfl, by simp [cmdC, Value.oneCell']⟩) _ ?_
  intro w2 hA2 hX hK
  have hlt := hA.lt
  refine (takes_box2 g w1.heap.size op hop _ cl ⟨#[]⟩ _ r rv _ w2 hA2 rfl (by omega) hX (by simp [zeroCmd]) (by simp [zeroCmd]) (fun w3 hA3 hK3 => hBox g w3 hg hA3 (hb.trans ((hK.trans hK3).below (by omega) (by omega) (by omega))))).mono ?_
  rintro e w3 ⟨rfl, hX3, hD, hK3⟩
  exact ⟨_, rfl, by simp [zeroCmd, cmdC], hX3, hD, hK3, trivial⟩

set_option maxRecDepth 10000 in
/-- What the reading gives at a copy. -/
theorem gives_copy (B : Nat) (p0 : ByteArray) (tag nm r r2 : List UInt8) (rs : List (Nat × Nat)) (cl : ByteArray) (rv : Value) (w : World) (hE : Env B w) (hp : p0.data.toList = tag ++ 32 :: (nm ++ 32 :: r)) (hs : p0.size ≤ 2000)
    (hT : TagOk tag) (hO : OpOk nm 22)
    (hSet : ∀ g w1, w.heap.size ≤ g → At g w1 ⟨r.toArray⟩ rv (.slice none 0 0) → Below w.heap.size w w1 → Calls Tryz.prog 79 #[PP g] w1 fun e w' => ∃ v, e = .returned v ∧ At g w' ⟨(32 :: r2).toArray⟩ rv (.slice none 0 0) ∧ Kept g w1 w' ∧ w'.ownsRow w1.heap.size 64 2 v rs.length (rcells rs))
    (hBox : ∀ g w1, w.heap.size ≤ g → At g w1 ⟨r2.toArray⟩ rv (.slice none 0 0) → Below w.heap.size w w1 → Calls Tryz.prog 81 #[PP g] w1 fun e w' => e = .returned (.string cl) ∧ Done g (.slice none 0 0) w' ∧ Kept g w1 w') :
    Gives p0 rv w (fun cs => ∃ A n c, cs = cmdC tag 22 cl (.slice A n c)) (fun cs W => ∃ v, cs = cmdC tag 22 cl v ∧ W.ownsRow (w.heap.size + 4) 64 2 v rs.length (rcells rs)) := by
  intro g w1 hg hA hb hsz
  obtain ⟨bm, hl⟩ := hE.look
  refine command_plain g bm p0 tag nm (32 :: r) 22 rv _ w1 hA hp (by omega) hT.ne hT.all hT.len hT.plus hO.ne hO.all rfl hO.look hO.op hO.uid (fun W hW => hl W ((hb.mono hE.le).trans (hW.below (Nat.le_trans hE.le hg) (by have := hE.le; omega) (by have := hE.le; omega))))
    _ (by rintro cs ⟨A, n, c, rfl⟩; exact ⟨rfl, by simp [cmdC, Value.oneCell']⟩) _ ?_
  intro w2 hA2 hX hK
  have hlt := hA.lt
  refine (takes_copy g w1.heap.size _ cl ⟨#[]⟩ (.slice none 0 0) _ rs r r2 rv _ w2 hA2 rfl (by omega) hX (by simp [zeroCmd]) (by simp [zeroCmd]) (by simp [zeroCmd])
    (fun w3 hA3 hK3 => hSet g w3 hg hA3 (hb.trans ((hK.trans hK3).below (by omega) (by omega) (by omega))))
    (fun w3 hA3 hK3 => hBox g w3 hg hA3 (hb.trans ((hK.trans hK3).below (by omega) (by omega) (by omega))))).mono ?_
  rintro e w3 ⟨v, rfl, hX3, hD, hK3, ho⟩
  have hv : ∃ A n c, v = .slice A n c := by
    rcases ho.2 with ⟨rfl, h⟩ | ⟨g, cap, cur, hv, _⟩
    · exact ⟨none, 0, 0, rfl⟩
    · exact ⟨_, _, _, hv⟩
  obtain ⟨A, n, c, rfl⟩ := hv
  have hcs : ((((zeroCmd.setIfInBounds 0 (.string ⟨tag.toArray⟩)).setIfInBounds 1 (.int .i64 22)).setIfInBounds 5 (.slice A n c)).setIfInBounds 3 (.string cl)) = cmdC tag 22 cl (.slice A n c) := by simp [zeroCmd, cmdC]
  rw [hcs] at hX3
  exact ⟨_, rfl, ⟨A, n, c, rfl⟩, hX3, hD, hK3, _, rfl, ownsRow_weaken ho (by have := hK.size; omega)⟩

end Go.Proofs.YtjamgkcmpcnfpaaGreatDoor
