/-
  Parse, at lines that are commands.
-/
import Derived.Test.YtjamgkcmpcnfpaaGreatDoorParseA
namespace Go.Proofs.YtjamgkcmpcnfpaaGreatDoor
open Go.RowKit

/-- What is said of the command's memory stands whatever happens to the call's first blocks. -/
def Stays (B : Nat) (R : Array Value → World → Prop) : Prop := ∀ cs W W', R cs W → (∀ k, B ≤ k → W'.heap[k]? = W.heap[k]?) → R cs W'

theorem parse_try (p0 : ByteArray) (rv : Value) (pb g : Nat) (w W : World) (hW : PW w p0 rv pb g W) (C : Array Value → Prop) (hC : ∀ cs, C cs → cs.size = 15 ∧ cs.all (·.oneCell') = true) (R : Array Value → World → Prop) (hS : Stays (w.heap.size + 4) R) (hG : Gives p0 rv w C R) :
    Calls Tryz.prog 22 #[.func (.func 23) #[] #[.pointer (some ⟨pb, 0, none⟩), .pointer (some ⟨w.heap.size, 0, none⟩)]] W fun e w' => e = .returned (.bool true) ∧ ∃ cs, w'.heap[w.heap.size]? = some (.cells cs 31 (0, 0)) ∧ C cs ∧ Below w.heap.size w w' ∧ R cs w' := by
  have hat := hW.at_
  have hsz := hW.size
  have e4 : (W.alloc (.cells #[.bool false] 4)).heap.size = w.heap.size + 4 := by simp [hsz]
  refine try_yes 23 _ (enters_of Tryz.func23 (by kernel_rfl) rfl) W _ ((Parse2_ok p0 rv pb g w W hW C hC R hG).mono ?_)
  rintro e w' ⟨cs, w2, rfl, rfl, hCs, hR, hK⟩
  have h3 : w2.heap[W.heap.size]? = some (.cells #[.bool false] 4 (0, 0)) := (hK.block _ (by simp) (by omega) (by omega)).trans (heap_alloc_at _ _ _ rfl)
  have h0 : w2.heap[w.heap.size]? = some (.cells zeroCmd 31 (0, 0)) := (hK.block _ (by omega) (by omega) (by omega)).trans ((heap_alloc_lt _ _ _ (by omega)).trans hW.x)
  refine ⟨rfl, (setRow_other _ _ _ _ (by omega)).trans h3, cs, ?_, hCs, ?_, ?_⟩
  · rw [setCell_heap_loop (by simp only []; omega)]; exact setRow_heap _ _ _ _ _ _ h0
  · have hb := hW.below
    refine (hb.trans ((hK.below (B := w.heap.size) (by omega) (by omega) (by omega)) |> fun k => ((Below.refl _ W).alloc (by omega) _).trans k)).trans ?_
    refine ⟨rfl, rfl, rfl, by simp [World.setCell], fun k hk => ?_⟩
    rw [setCell_heap_loop (by simp only []; omega), setRow_other _ _ _ _ (by omega)]
  · refine hS cs w2 _ hR (fun k hk => ?_)
    rw [setCell_heap_loop (by simp only []; omega), setRow_other _ _ _ _ (by omega)]

theorem results_parse {tmps : Array Value} {w : World} {g : Nat} {cs : Array Value} {v : Value} (hp : tmps.getD 2 undef = .pointer (some ⟨g, 0, none⟩)) (hv : tmps.getD 3 undef = v)
    (hg : w.heap[g]? = some (.cells cs 31 (0, 0))) (hi : (Tryz.prog.info? 31).map (·.size) = some cs.size) : (results Tryz.f10 tmps).run Tryz.prog w = .ok (.tuple #[.agg cs, v]) w := by
  have hp' : tmps[2]?.getD undef = .pointer (some ⟨g, 0, none⟩) := by simpa using hp
  have hv' : tmps[3]?.getD undef = v := by simpa using hv
  simp [results, Tryz.results10, hp', hv', asAddr, run_loadVar_row w g 31 31 cs (0, 0) _ hg Tryz.underlying31 rfl hi]

set_option maxHeartbeats 4000000 in
set_option maxRecDepth 100000 in
/-- Parse, at a line that is read to its end. -/
theorem Parse_ok (b o n c : Nat) (parts : List ByteArray) (p0 : ByteArray) (w : World) (hn : n = parts.length) (hmax : n ≤ 9) (hodd : n % 2 = 1) (hnc : n ≤ c) (hcm : c ≤ 1000)
    (hc : ∀ j, j < n → w.cell? ⟨b, o + j, none⟩ = some (.string (parts.getD j ByteArray.empty))) (hl : ∀ j, j < n → (parts.getD j ByteArray.empty).size ≤ 2000) (h0 : parts.getD 0 ByteArray.empty = p0)
    (C : Array Value → Prop) (hC : ∀ cs, C cs → cs.size = 15 ∧ cs.all (·.oneCell') = true) (R : Array Value → World → Prop) (hS : Stays (w.heap.size + 4) R)
    (hG : Gives p0 (.slice (if c = 1 then some ⟨b, o, none⟩ else some ⟨b, o + 1, none⟩) (n - 1) (c - 1)) w C R) :
    Calls Tryz.prog 10 #[.slice (some ⟨b, o, none⟩) n c] w fun e w' => ∃ cs, e = .returned (.tuple #[.agg cs, .int .i64 0]) ∧ C cs ∧ Below w.heap.size w w' ∧ R cs w' := by
  have hb0 : b < w.heap.size := World.block_lt_of_cell? _ _ (hc 0 (by omega))
  have hc0 := (World.cell?_alloc_lt w (.cells zeroCmd 31) ⟨b, o + 0, none⟩ hb0).trans (hc 0 (by omega))
  rw [h0, Nat.add_zero] at hc0
  have hCF := ContainsFunc_long b o n c parts (w.alloc (.cells zeroCmd 31)) hn (by omega) (fun j hj => (World.cell?_alloc_lt _ _ ⟨b, o + j, none⟩ hb0).trans (hc j hj)) hl
  have HCF := Lib.hid hCF; clear hCF
  have Hc := Lib.hid hc; clear hc
  have Hl := Lib.hid hl; clear hl
  have HC := Lib.hid hC; clear hC
  have HS := Lib.hid hS; clear hS
  have hodd' : ((n : Int) % 2 == 0) = false := by rw [beq_eq_false_iff_ne]; omega
  have hmf : ∀ (fn : Fn) (first cap : Array Value) (w : World), (Instr.makeFunc fn first cap).run Tryz.prog w = .ok (.func fn first cap) w := fun _ _ _ _ => rfl
  clear hn h0
  by_cases hc1 : c = 1
  · subst hc1
    have : n = 1 := by omega
    subst this
    have HG : Hid (Gives p0 (.slice (some ⟨b, o, none⟩) 0 0) w C R) := Lib.hid (by simpa using hG)
    clear hG
    go_enter Tryz.func10, Tryz.ntmps10
    go_wp2_with fail
    refine HCF.out.mono ?_
    rintro e w1 ⟨rfl, rfl⟩
    go_wp2_with fail
    go_region
    all_goals go_wp2_with fail
    all_goals
      first
      | (refine (parse_try p0 _ (w.heap.size + 1) (w.heap.size + 2) w _ (pw_a w p0 _) C HC.out R HS.out HG.out).mono ?_)
      | (refine (parse_try p0 _ (w.heap.size + 2) (w.heap.size + 1) w _ (pw_b w p0 _) C HC.out R HS.out HG.out).mono ?_)
      rintro e w5 ⟨rfl, cs, hx, hCs, hB, hR⟩
      obtain ⟨h15, hone⟩ := HC.out cs hCs
      have Hx := Lib.hid hx; clear hx
      have Hone := Lib.hid hone; clear hone
      have hi : (Tryz.prog.info? 31).map (·.size) = some cs.size := by rw [h15]; kernel_rfl
      clear h15
      go_wp2_with (first | (refine wpList_load_row rfl 31 _ rfl w.heap.size rfl 31 cs (0, 0) _ Hx.out Tryz.underlying31 rfl hi ?_) | (refine wpList_store_row rfl 31 _ _ rfl w.heap.size cs rfl rfl 31 cs Hx.out hi rfl Hone.out ?_; rw [setRow_self _ _ _ _ _ Hx.out]))
      exact bodyPost_ret (results_parse rfl rfl Hx.out hi) rfl ⟨cs, rfl, hCs, hB, hR⟩
  · rw [if_neg hc1] at hG
    have HG := Lib.hid hG; clear hG
    go_enter Tryz.func10, Tryz.ntmps10
    go_wp2_with fail
    refine HCF.out.mono ?_
    rintro e w1 ⟨rfl, rfl⟩
    go_wp2_with fail
    go_region
    all_goals go_wp2_with fail
    all_goals
      first
      | (refine (parse_try p0 _ (w.heap.size + 1) (w.heap.size + 2) w _ (pw_a w p0 _) C HC.out R HS.out HG.out).mono ?_)
      | (refine (parse_try p0 _ (w.heap.size + 2) (w.heap.size + 1) w _ (pw_b w p0 _) C HC.out R HS.out HG.out).mono ?_)
      rintro e w5 ⟨rfl, cs, hx, hCs, hB, hR⟩
      obtain ⟨h15, hone⟩ := HC.out cs hCs
      have Hx := Lib.hid hx; clear hx
      have Hone := Lib.hid hone; clear hone
      have hi : (Tryz.prog.info? 31).map (·.size) = some cs.size := by rw [h15]; kernel_rfl
      clear h15
      go_wp2_with (first | (refine wpList_load_row rfl 31 _ rfl w.heap.size rfl 31 cs (0, 0) _ Hx.out Tryz.underlying31 rfl hi ?_) | (refine wpList_store_row rfl 31 _ _ rfl w.heap.size cs rfl rfl 31 cs Hx.out hi rfl Hone.out ?_; rw [setRow_self _ _ _ _ _ Hx.out]))
      exact bodyPost_ret (results_parse rfl rfl Hx.out hi) rfl ⟨cs, rfl, hCs, hB, hR⟩

end Go.Proofs.YtjamgkcmpcnfpaaGreatDoor
