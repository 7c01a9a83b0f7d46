/-
  'escheatlaw24.CommandSames' returns true for every two lines, and leaves its arguments as they were: the row, and its tied card.
  Conditions: the listed package-level variables (math/bits' two tables, escheat/flag.named, escheat/command.ops) hold what the program's text lays (the card ties that); of the other package-level variables that the row names nothing is asked: they are never read.
-/
import Derived.Test.YtjamgkcmpcnfpaaGreatDoorCards
import Derived.Test.YtjamgkcmpcnfpaaGreatDoorTie
import Derived.Test.YtjamgkcmpcnfpaaGreatDoorS07
import Derived.Test.YtjamgkcmpcnfpaaGreatDoorS34
import Derived.Deep.Strs
import Derived.Deep.DeepHandedRow
import Derived.Deep.DeepWitnessRowRef
import Derived.SizedLaws
set_option linter.unusedVariables false
set_option linter.unusedSimpArgs false
namespace Go.Proofs.YtjamgkcmpcnfpaaGreatDoor
open Go.ChangeShapes Go.WideShapes Go.ChangeAt Go.RowKit Go.Deep Go.WideMaps Go.ChangeMaps

section
variable {H : Type} {enc : TypeId × Value → H}

set_option maxRecDepth 100000 in
theorem parts_open {W : World} {base : Nat} {v : Value} {d : DataW H} {p : List MemPlace} (hval : Value.okWide Tryz.prog W .any base 22 v) (h : DataW.Trod enc Tryz.prog W 0 (fun _ => true) true 22 v d p) :
    v = .slice none 0 0 ∨ ∃ b o n c es sp, v = .slice (some ⟨b, o, none⟩) n c ∧ b < W.heap.size ∧ (∃ L : Nat → ByteArray, ∀ j, j < n → W.cell? ⟨b, o + j, none⟩ = some (.string (L j))) ∧ d = .slice es sp ∧ es.length = n := by
  obtain ⟨a, len, cap, rfl⟩ := okWide_slice Tryz.underlying22 hval
  obtain ⟨fuel, h⟩ := h
  rcases open_strs Tryz.underlying22 Tryz.underlying9 c9 h with ⟨hc, _⟩ | ⟨a', len', cap', m, Sx, hc, _, hl, _, hmm, hx, hall⟩
  · left
    simpa [Value.cells] using hc
  · right
    simp only [Value.cells, List.cons.injEq, Value.slice.injEq, and_true] at hc
    obtain ⟨rfl, rfl, rfl⟩ := hc
    simp only [if_true] at hmm
    subst hmm
    have hok : W.has Tryz.prog .any base a' 9 m := by
      have := hval
      simp only [Value.okWide, Tryz.underlying22, Cell.okWide, Cell.ok] at this
      exact this.2.2
    obtain ⟨_, hsp, row, cells, hsh, _⟩ := hok
    obtain ⟨b, o, spot⟩ := a'
    simp only at hsp hsh
    subst hsp
    simp only [Prod.mk.injEq] at hx
    have hlt : b < W.heap.size := by
      unfold World.shape? at hsh
      split at hsh
      · rename_i e
        exact (Array.getElem?_eq_some_iff.1 e).1
      · cases hsh
    refine ⟨b, o, len, m, _, _, rfl, hlt, ⟨Sx, fun j hj => ?_⟩, hx.1, by simp⟩
    obtain ⟨hcell, _⟩ := hall j (by omega)
    rw [add_plain] at hcell
    exact hcell

set_option maxRecDepth 100000 in
theorem parts_v {W : World} {base : Nat} {v : Value} {d : DataW H} {p : List MemPlace} {ts : List TypeId} {ds : List (DataW H)} {j : Nat} (hval : Value.okWide Tryz.prog W .any base 22 v) (h : DataW.Trod enc Tryz.prog W 0 (fun _ => true) true 22 v d p)
    (hz : (DataW.weightsEach Tryz.prog ts ds).all (· ≤ reachBytes) = true) (ht : ts[j]? = some 22) (hd : ds[j]? = some d) : PartsV W v := by
  rcases parts_open hval h with rfl | ⟨b, o, n, c, es, sp, rfl, hlt, ⟨L, hL⟩, rfl, hlen⟩
  · exact .inl rfl
  · refine .inr ⟨b, o, n, c, L, rfl, hlt, ?_, hL⟩
    have z := sized_slice hz ht hd Tryz.underlying22
    have hb9 : Tryz.prog.bytesOf 9 = 16 := by kernel_rfl
    rw [hb9] at z
    have hr := reachBytes_lt
    omega

set_option maxRecDepth 100000 in
theorem sames_contract (W : World) (base : Nat) (args : Array Value) (ds gs : List (DataW H)) (before : List MemPlace)
    (hval : ∀ (j : Nat) t v, Tryz.f7.params[j]? = some t → args[j]? = some v → Value.okWide Tryz.prog W .any base t v)
    (hW : DataW.Whole enc Tryz.prog Tryz.f7.params.toList Rows.commandSamesSpec.vars false W args.toList ds gs before)
    (hz : (DataW.weightsEach Tryz.prog (Tryz.f7.params.toList ++ []) (ds ++ gs)).all (· ≤ reachBytes) = true) (hL : laidMetH Tryz.prog laidL W) (hS : W.ShapedOpen Tryz.prog) :
    Calls Tryz.prog 7 args W fun e W' => ∃ v, e = .returned v ∧ Rows.commandSamesSpec.post enc Tryz.prog Tryz.f7 false true false false W args v W' := by
  have hW' := hW
  obtain ⟨p, q, hA0, hV, rfl, hfz, hnd⟩ := hW
  have hA : DataW.TrodAll enc Tryz.prog W 0 (fun _ => true) true Tryz.f7.params.toList args.toList ds p := hA0
  rw [Tryz.params7] at hA hval hz
  obtain ⟨v0, v1, d0, d1, p0, p1, rfl, rfl, rfl, h0, h1⟩ := trodAll_two hA
  obtain ⟨rfl, rfl⟩ := trodVars_none hV
  have hE := env_of_laid hL hS
  have k0 := parts_v (hval 0 22 v0 rfl rfl) h0 hz (j := 0) rfl rfl
  have k1 := parts_v (hval 1 22 v1 rfl rfl) h1 hz (j := 1) rfl rfl
  refine (sames_walk v0 v1 W hE k0 k1).mono fun e W' ⟨he, hb⟩ => ?_
  subst he
  exact ⟨_, rfl, law_post rfl (by kernel_rfl) (by rw [Tryz.params7]; decide +kernel) rfl hW' hb⟩

end

/-- The arguments of the witness. -/
abbrev samesArgs : Array Value := #[.slice none 0 0, .slice none 0 0]

theorem sames_met (os : Os) : laidMetH Tryz.prog Rows.commandSamesRow.laid ((World.doorLaid Tryz.prog 519 os).forCall (fun _ _ => 0) ⟨#[], samesArgs, []⟩).memory := by
  rw [MakeChecks.laidMetH_plain _ _ _ (by kernel_rfl)]
  exact laidMet_of_run' 8 (by kernel_rfl) (by kernel_rfl)

theorem sames_reads (os : Os) {H : Type} (enc : TypeId × Value → H) : ∃ places, DataW.whole enc Tryz.prog ((World.doorLaid Tryz.prog 519 os).forCall (fun _ _ => 0) ⟨#[], samesArgs, []⟩).memory Tryz.f7.params.toList Rows.commandSamesSpec.vars false samesArgs.toList 8 = some ([.nil, .nil], [], places) :=
  ⟨[], by kernel_rfl⟩

set_option maxRecDepth 100000 in
theorem sames_lifted (os : Os) (started : os.Started) (H : Type) (enc : TypeId × Value → H) (F : Stop.Interp) :
    ReturnsInHanded {} Tryz.checked os 7 .any ((OpenSpec.ofChange Rows.commandSamesSpec).preRow enc Tryz.prog Tryz.f7 Rows.commandSamesRow.domain false Rows.commandSamesRow.laid) (((OpenSpec.ofChange Rows.commandSamesSpec).at F).post enc Tryz.prog Tryz.f7 false true false false) := by
  obtain ⟨places, hx⟩ := sames_reads os enc
  refine returnsInHanded_of_row (C := Tryz.checked) (s := OpenSpec.ofChange Rows.commandSamesSpec) own started (by kernel_rfl) Tryz.func7
    (witness_row_atRef (enc := enc) (C := Tryz.checked) false (World.doorLaid Tryz.prog 519 os) samesArgs rfl (by kernel_rfl) (by kernel_rfl) (by kernel_rfl)
      (OpenSpec.preRow_of_cond 8 hx (by kernel_rfl) (fun k hk => by cases hk) (by kernel_rfl) (sames_met os))) ?_
  intro W base args ds gs before hval hW _ _ hz hL hS _
  exact sames_contract W base args ds gs before hval hW hz hL hS

theorem sames_said : Rows.CommandSamesSaid :=
  OpenClaim.holds_of_cond 7 Tryz.f7 rfl rfl rfl rfl rfl rfl rfl ⟨rfl, rfl, rfl, rfl, rfl⟩ rfl rfl rfl rfl rfl (by kernel_rfl) Tryz.func7 (by kernel_rfl)
    (of_decide_eq_true (by kernel_rfl)) (by unfold Func.isWrapper; first | (rw [if_pos (by decide +kernel)]; kernel_rfl) | (rw [if_neg (by decide +kernel)]; exact ⟨rfl, rfl⟩))
    (fun os started H enc _ F => by rw [OpenClaim.pre_eq_preRow]; exact sames_lifted os started H enc F)

/-- No parameter wants a stand-in; the program's own looks are on: what the card asks. -/
theorem sames_plain (f : FuncId) (fn : Func) (hf : Tryz.pinned.checked.prog.funcNamed "escheat/escheatlaw24.CommandSames" = some f) (hfn : Tryz.pinned.checked.prog.funcs[f]? = some fn) :
    true = Tryz.pinned.checked.prog.looks [] ∧ ∀ (j : Nat) t, fn.params[j]? = some t → Tryz.pinned.checked.prog.wantsStandIn t = false := by
  obtain rfl : f = 7 := Option.some.inj ((show Tryz.prog.funcNamed "escheat/escheatlaw24.CommandSames" = some 7 by kernel_rfl).symm.trans hf) |>.symm
  obtain rfl : fn = Tryz.f7 := (Option.some.inj (Tryz.func7.symm.trans hfn)).symm
  refine ⟨by kernel_rfl, fun j t ht => ?_⟩
  rw [Tryz.params7] at ht
  have hm : t ∈ [22, 22] := by simpa using Array.mem_of_getElem? ht
  have hall : ([22, 22].all fun u => !Tryz.prog.wantsStandIn u) = true := by kernel_rfl
  exact (show Tryz.prog.wantsStandIn t = false by simpa using List.all_eq_true.1 hall t hm)

/-- THE CARD. -/
theorem sames_card : Rows.CommandSamesCardSaid :=
  Claim7.holds_tied_plain_at .later [] _ _ _ _ sames_said (fun _ h => by cases h) (by kernel_rfl) (fun _ h => by cases h) commandSames_row_tie rfl ⟨rfl, rfl⟩ (by kernel_rfl) rfl sames_plain (by kernel_rfl)

#print axioms sames_card
end Go.Proofs.YtjamgkcmpcnfpaaGreatDoor
