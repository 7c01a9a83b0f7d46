/-
  'escheatlaw24.CommandNames' returns true for every tag, every box and every set of ranges, and leaves its arguments as they were: the row, and its tied card.
  Conditions: the listed package-level variables (math/bits' two tables, escheat/flag.named, escheat/command.ops) hold what the program's text lays (the card ties that); of the other package-level variables that the row names nothing is asked: they are never read.
-/
import Derived.Test.YtjamgkcmpcnfpaaGreatDoorCards
import Derived.Test.YtjamgkcmpcnfpaaGreatDoorTie
import Derived.Test.YtjamgkcmpcnfpaaGreatDoorLawRow
import Derived.Test.YtjamgkcmpcnfpaaGreatDoorNil
import Derived.Test.YtjamgkcmpcnfpaaGreatDoorNamesN
import Derived.Deep.SlicePairs
import Derived.Deep.DeepHandedRow
import Derived.Deep.DeepWitnessRowRef
import Derived.SizedLaws
namespace Go.Proofs.YtjamgkcmpcnfpaaGreatDoor
open Go.ChangeShapes Go.WideShapes Go.ChangeAt Go.RowKit Go.Deep Go.WideMaps Go.ChangeMaps

theorem c64 : Tryz.prog.cellsOf 64 = 2 := by kernel_rfl


section
variable {H : Type} {enc : TypeId × Value → H}

set_option maxRecDepth 100000 in
theorem ranges_open {W : World} {base : Nat} {v : Value} {d : DataW H} {p : List MemPlace} (hval : Value.okWide Tryz.prog W .any base 26 v) (h : DataW.Trod enc Tryz.prog W 0 (fun _ => true) true 26 v d p) :
    v = .slice none 0 0 ∨ ∃ b o n c ps es sp, v = .slice (some ⟨b, o, none⟩) n c ∧ PairsAt W b o n ps ∧ b < W.heap.size ∧ d = .slice es sp ∧ es.length = n := by
  obtain ⟨a, len, cap, rfl⟩ := okWide_slice Tryz.underlying26 hval
  obtain ⟨fuel, h⟩ := h
  rcases open_slice_pairs Tryz.underlying26 Tryz.underlying64 c64 rfl rfl c3 c3 h with ⟨hc, _⟩ | ⟨a', len', cap', m, k, V0, V1, D0, D1, P0, P1, hc, _, hl, _, hmm, hx, hall⟩
  · left
    simpa [Value.cells] using hc
  · right
    simp only [Value.cells, List.cons.injEq, Value.slice.injEq, and_true] at hc
    obtain ⟨rfl, rfl, rfl⟩ := hc
    simp only [if_true] at hmm
    subst hmm
    have hok : W.has Tryz.prog .any base a' 64 m := by
      have := hval
      simp only [Value.okWide, Tryz.underlying26, Cell.okWide, Cell.ok] at this
      exact this.2.2
    obtain ⟨_, hsp, row, cells, hsh, _⟩ := hok
    obtain ⟨b, o, spot⟩ := a'
    simp only at hsp hsh
    subst hsp
    simp only [Prod.mk.injEq] at hx
    have hlt : b < W.heap.size := by
      unfold World.shape? at hsh
      split at hsh
      · rename_i e
        exact (Array.getElem?_eq_some_iff.1 e).1
      · cases hsh
    refine ⟨b, o, len, m, (List.range len).map fun i => (intOf (V0 i), intOf (V1 i)), _, _, rfl, ?_, hlt, hx.1, by simp⟩
    intro i hi
    obtain ⟨h0, h1, t0, t1⟩ := hall i (by omega)
    obtain ⟨x, e0, _, _⟩ := DataW.trod_int Tryz.underlying3 t0
    obtain ⟨y, e1, _, _⟩ := DataW.trod_int Tryz.underlying3 t1
    simp only [List.cons.injEq, and_true] at e0 e1
    rw [add_plain] at h0 h1
    rw [List.getD_eq_getElem?_getD, List.getElem?_map, List.getElem?_range hi]
    simp only [Option.map_some, Option.getD_some]
    rw [h0, show o + i * 2 + 1 = o + (i * 2 + 1) by omega, h1, e0, e1]
    exact ⟨rfl, rfl⟩

set_option maxRecDepth 100000 in
theorem names_contract (W : World) (base : Nat) (args : Array Value) (ds gs : List (DataW H)) (before : List MemPlace)
    (hval : ∀ (j : Nat) t v, Tryz.f4.params[j]? = some t → args[j]? = some v → Value.okWide Tryz.prog W .any base t v)
    (hW : DataW.Whole enc Tryz.prog Tryz.f4.params.toList Rows.commandNamesSpec.vars false W args.toList ds gs before)
    (hz : (DataW.weightsEach Tryz.prog (Tryz.f4.params.toList ++ []) (ds ++ gs)).all (· ≤ reachBytes) = true) (hL : laidMetH Tryz.prog laidL W) (hS : W.ShapedOpen Tryz.prog) :
    Calls Tryz.prog 4 args W fun e W' => ∃ v, e = .returned v ∧ Rows.commandNamesSpec.post enc Tryz.prog Tryz.f4 false true false false W args v W' := by
  have hW' := hW
  obtain ⟨p, q, hA0, hV, rfl, hfz, hnd⟩ := hW
  have hA : DataW.TrodAll enc Tryz.prog W 0 (fun _ => true) true Tryz.f4.params.toList args.toList ds p := hA0
  rw [Tryz.params4] at hA hval hz
  obtain ⟨v0, v1, v2, d0, d1, d2, p0, p1, p2, rfl, rfl, rfl, h0, h1, h2⟩ := trodAll_three hA
  obtain ⟨rfl, rfl⟩ := trodVars_none hV
  obtain ⟨tag, rfl, rfl, rfl, _⟩ := open_string Tryz.underlying9 (hval 0 9 v0 rfl rfl) h0
  obtain ⟨box, rfl, rfl, rfl, _⟩ := open_string Tryz.underlying9 (hval 1 9 v1 rfl rfl) h1
  have z0 := sized_string hz (j := 0) rfl rfl
  have z1 := sized_string hz (j := 1) rfl rfl
  have hr := reachBytes_lt
  have hE := env_of_laid hL hS
  have hts : tag.size ≤ 9223372036854775806 := by rw [size_bytes]; omega
  have hbs : box.size ≤ 9223372036854775806 := by rw [size_bytes]; omega
  have walk : Calls Tryz.prog 4 #[.string tag, .string box, v2] W fun e w' => e = .returned (.bool true) ∧ Below W.heap.size W w' := by
    rcases ranges_open (hval 2 26 v2 rfl rfl) h2 with rfl | ⟨b, o, n, c, ps, es, sp, rfl, hP, hlt, rfl, hlen⟩
    · exact names_nil _ tag box W hE hbs
    · have z2 := sized_slice hz (j := 2) rfl rfl Tryz.underlying26
      have hb64 : Tryz.prog.bytesOf 64 = 16 := by kernel_rfl
      rw [hb64] at z2
      exact names_walk _ b o n c tag box ps W hE hts hbs (by omega) hP (fun _ => hlt)
  refine walk.mono fun e W' ⟨he, hb⟩ => ?_
  subst he
  exact ⟨_, rfl, law_post rfl (by kernel_rfl) (by rw [Tryz.params4]; decide +kernel) rfl hW' hb⟩

end

/-- The arguments of the witness. -/
abbrev namesArgs : Array Value := #[.string ⟨#[]⟩, .string ⟨#[]⟩, .slice none 0 0]

theorem names_met (os : Os) : laidMetH Tryz.prog Rows.commandNamesRow.laid ((World.doorLaid Tryz.prog 519 os).forCall (fun _ _ => 0) ⟨#[], namesArgs, []⟩).memory := by
  rw [MakeChecks.laidMetH_plain _ _ _ (by kernel_rfl)]
  exact laidMet_of_run' 8 (by kernel_rfl) (by kernel_rfl)

theorem names_reads (os : Os) {H : Type} (enc : TypeId × Value → H) : ∃ places, DataW.whole enc Tryz.prog ((World.doorLaid Tryz.prog 519 os).forCall (fun _ _ => 0) ⟨#[], namesArgs, []⟩).memory Tryz.f4.params.toList Rows.commandNamesSpec.vars false namesArgs.toList 8 = some ([.lit (.string []), .lit (.string []), .nil], [], places) :=
  ⟨[], by kernel_rfl⟩

set_option maxRecDepth 100000 in
theorem names_lifted (os : Os) (started : os.Started) (H : Type) (enc : TypeId × Value → H) (F : Stop.Interp) :
    ReturnsInHanded {} Tryz.checked os 4 .any ((OpenSpec.ofChange Rows.commandNamesSpec).preRow enc Tryz.prog Tryz.f4 Rows.commandNamesRow.domain false Rows.commandNamesRow.laid) (((OpenSpec.ofChange Rows.commandNamesSpec).at F).post enc Tryz.prog Tryz.f4 false true false false) := by
  obtain ⟨places, hx⟩ := names_reads os enc
  refine returnsInHanded_of_row (C := Tryz.checked) (s := OpenSpec.ofChange Rows.commandNamesSpec) own started (by kernel_rfl) Tryz.func4
    (witness_row_atRef (enc := enc) (C := Tryz.checked) false (World.doorLaid Tryz.prog 519 os) namesArgs rfl (by kernel_rfl) (by kernel_rfl) (by kernel_rfl)
      (OpenSpec.preRow_of_cond 8 hx (by kernel_rfl) (fun k hk => by cases hk) (by kernel_rfl) (names_met os))) ?_
  intro W base args ds gs before hval hW _ _ hz hL hS _
  exact names_contract W base args ds gs before hval hW hz hL hS

theorem names_said : Rows.CommandNamesSaid :=
  OpenClaim.holds_of_cond 4 Tryz.f4 rfl rfl rfl rfl rfl rfl rfl ⟨rfl, rfl, rfl, rfl, rfl⟩ rfl rfl rfl rfl rfl (by kernel_rfl) Tryz.func4 (by kernel_rfl)
    (of_decide_eq_true (by kernel_rfl)) (by unfold Func.isWrapper; first | (rw [if_pos (by decide +kernel)]; kernel_rfl) | (rw [if_neg (by decide +kernel)]; exact ⟨rfl, rfl⟩))
    (fun os started H enc _ F => by rw [OpenClaim.pre_eq_preRow]; exact names_lifted os started H enc F)

/-- No parameter wants a stand-in; the program's own looks are on: what the card asks. -/
theorem names_plain (f : FuncId) (fn : Func) (hf : Tryz.pinned.checked.prog.funcNamed "escheat/escheatlaw24.CommandNames" = some f) (hfn : Tryz.pinned.checked.prog.funcs[f]? = some fn) :
    true = Tryz.pinned.checked.prog.looks [] ∧ ∀ (j : Nat) t, fn.params[j]? = some t → Tryz.pinned.checked.prog.wantsStandIn t = false := by
  obtain rfl : f = 4 := Option.some.inj ((show Tryz.prog.funcNamed "escheat/escheatlaw24.CommandNames" = some 4 by kernel_rfl).symm.trans hf) |>.symm
  obtain rfl : fn = Tryz.f4 := (Option.some.inj (Tryz.func4.symm.trans hfn)).symm
  refine ⟨by kernel_rfl, fun j t ht => ?_⟩
  rw [Tryz.params4] at ht
  have hm : t ∈ [9, 9, 26] := by simpa using Array.mem_of_getElem? ht
  have hall : ([9, 9, 26].all fun u => !Tryz.prog.wantsStandIn u) = true := by kernel_rfl
  exact (show Tryz.prog.wantsStandIn t = false by simpa using List.all_eq_true.1 hall t hm)

/-- THE CARD. -/
theorem names_card : Rows.CommandNamesCardSaid :=
  Claim7.holds_tied_plain_at .later [] _ _ _ _ names_said (fun _ h => by cases h) (by kernel_rfl) (fun _ h => by cases h) commandNames_row_tie rfl ⟨rfl, rfl⟩ (by kernel_rfl) rfl names_plain (by kernel_rfl)

#print axioms names_card
end Go.Proofs.YtjamgkcmpcnfpaaGreatDoor
