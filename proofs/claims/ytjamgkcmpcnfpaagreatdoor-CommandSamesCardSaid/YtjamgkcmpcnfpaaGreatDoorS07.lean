/-
  What the row's listed variables give the walks: the map of names, the flags' names; bytealg.MaxLen's cell holds some number.
  The frame of a law's row: a call that returns true and changes nothing that was there meets the row's condition behind the call.
  A region that draws its order, all of whose operations but the last ones read or call quietly, the last ones in one order behind them: one walk of the lexical order serves every order.
  The reference's cursor: its block, and what a call of one of its methods leaves.
-/
import Derived.Test.YtjamgkcmpcnfpaaGreatDoorS06
import Derived.Test.YtjamgkcmpcnfpaaGreatDoorRows
import Derived.LaidMore
import Derived.OpenShut
import Derived.ProofKit
import Derived.Shelf.Vars
import Derived.ReadAgain
import Derived.Below
import Derived.ChangeSame
import Derived.Deep.DeepHandedRow
import Derived.StillTail
import Derived.Deep.Quiet
import Derived.Test.YtjamgkcmpcnfpaaGreatDoorS02
import Derived.RegionTactic
import Derived.ChangeAlike
import Derived.BigQuiet
import Derived.Outline
import Derived.IntWalk
import Derived.Deep.QuietTactic
import Derived.Deep.RegionWith
set_option linter.unusedVariables false
set_option linter.unusedSimpArgs false

namespace Go.Proofs.YtjamgkcmpcnfpaaGreatDoor
open Go.ChangeShapes Go.WideShapes Go.ChangeAt Go.WideMaps Go.WideElems Go.RowKit

theorem gOps : Tryz.prog.globalNamed "escheat/command.ops" = some 0 := by kernel_rfl
theorem gNamed : Tryz.prog.globalNamed "escheat/flag.named" = some 9 := by kernel_rfl
theorem gMax : Tryz.prog.globalNamed "internal/bytealg.MaxLen" = some 4 := by kernel_rfl
theorem tOps : (Tryz.prog.globals[0]?).map (·.type) = some 85 := by kernel_rfl
theorem tNamed : (Tryz.prog.globals[9]?).map (·.type) = some 165 := by kernel_rfl
theorem keyLaw : KeyLaw Tryz.prog 9 := string_law Tryz.underlying9
theorem c165 : Tryz.prog.cellsOf 165 = 10 := by kernel_rfl
theorem c164 : Tryz.prog.cellsOf 164 = 2 := by kernel_rfl
theorem c9 : Tryz.prog.cellsOf 9 = 1 := by kernel_rfl
theorem c3 : Tryz.prog.cellsOf 3 = 1 := by kernel_rfl

/-- What the rows list. -/
abbrev laidL : List (String × DataW Unit) := [("math/bits.deBruijn32tab", Rows.laid_math_bits_deBruijn32tab), ("math/bits.deBruijn64tab", Rows.laid_math_bits_deBruijn64tab), ("escheat/flag.named", Rows.laid_escheat_flag_named), ("escheat/command.ops", Rows.laid_escheat_command_ops)]

section
variable {H : Type} {enc : TypeId × Value → H} {w : World} {base : Nat} {sp : Nat → Bool} {held : Bool}

theorem str_of {fuel : Nat} {v : Value} {s : List UInt8} {p : List MemPlace} (h : DataW.trod enc Tryz.prog w base sp held fuel 9 [v] = some (.lit (.string s), p)) : v = .string ⟨s.toArray⟩ := by
  obtain ⟨s', hc, hx, _⟩ := DataW.trod_string Tryz.underlying9 h
  simp only [Prod.mk.injEq, DataW.lit.injEq, Lit.string.injEq] at hx
  simp only [List.cons.injEq, and_true] at hc
  rw [hc, hx.1]

theorem int_of {fuel : Nat} {v : Value} {n : Int} {p : List MemPlace} (h : DataW.trod enc Tryz.prog w base sp held fuel 3 [v] = some (.lit (.int .i64 n), p)) : v = .int .i64 n := by
  obtain ⟨n', hc, hx, _⟩ := DataW.trod_int Tryz.underlying3 h
  simp only [Prod.mk.injEq, DataW.lit.injEq, Lit.int.injEq, true_and] at hx
  simp only [List.cons.injEq, and_true] at hc
  rw [hc, hx.1]

theorem flag_of {fuel : Nat} {a b : Value} {s : List UInt8} {n : Int} {p : List MemPlace} (h : DataW.trod enc Tryz.prog w base sp held fuel 164 [a, b] = some (.agg [.lit (.string s), .lit (.int .i64 n)], p)) : a = .string ⟨s.toArray⟩ ∧ b = .int .i64 n := by
  obtain ⟨y0, y1, m, hx, _, h0, h1⟩ := trod_struct2 Tryz.underlying164 h
  simp only [Prod.mk.injEq, DataW.agg.injEq, List.cons.injEq, and_true] at hx
  obtain ⟨⟨e0, e1⟩, _⟩ := hx
  obtain ⟨d0, p0⟩ := y0
  obtain ⟨d1, p1⟩ := y1
  subst e0
  subst e1
  exact ⟨str_of (by simpa [c9] using h0), int_of (by simpa [c3] using h1)⟩
end

set_option maxRecDepth 100000 in
/-- The flags' names stand in block 9. -/
theorem named_of {W : World} {cs : Array Value} {fuel : Nat} {p : List MemPlace} (h : DataW.trod (fun _ => ()) Tryz.prog W 0 (fun _ => true) false fuel 165 cs.toList = some (Rows.laid_escheat_flag_named, p)) : cs = namedC := by
  obtain ⟨l⟩ := cs
  obtain ⟨xs, m, _, hx, hlen, hn, hel⟩ := DataW.trod_array Tryz.underlying165 h
  rw [c165] at hlen
  simp only [Prod.mk.injEq, Rows.laid_escheat_flag_named, DataW.agg.injEq] at hx
  obtain ⟨hx, _⟩ := hx
  match xs, hn, l, hlen with
  | [x0, x1, x2, x3, x4], _, [a0, a1, a2, a3, a4, a5, a6, a7, a8, a9], _ =>
    simp only [List.map_cons, List.map_nil, List.cons.injEq, and_true] at hx
    obtain ⟨e0, e1, e2, e3, e4⟩ := hx
    have h0 := hel 0 (by decide)
    have h1 := hel 1 (by decide)
    have h2 := hel 2 (by decide)
    have h3 := hel 3 (by decide)
    have h4 := hel 4 (by decide)
    obtain ⟨d0, p0⟩ := x0
    obtain ⟨d1, p1⟩ := x1
    obtain ⟨d2, p2⟩ := x2
    obtain ⟨d3, p3⟩ := x3
    obtain ⟨d4, p4⟩ := x4
    subst e0; subst e1; subst e2; subst e3; subst e4
    simp [c164] at h0 h1 h2 h3 h4
    obtain ⟨rfl, rfl⟩ := flag_of h0
    obtain ⟨rfl, rfl⟩ := flag_of h1
    obtain ⟨rfl, rfl⟩ := flag_of h2
    obtain ⟨rfl, rfl⟩ := flag_of h3
    obtain ⟨rfl, rfl⟩ := flag_of h4
    rfl

theorem heap_of_var {W : World} {name : String} {g : Nat} {cs : Array Value} (hg : Tryz.prog.globalNamed name = some g) (h : W.var? Tryz.prog name = some cs) : ∃ t fr, W.heap[g]? = some (.cells cs t fr) := by
  unfold World.var? at h
  rw [hg] at h
  simp only [Option.bind_some] at h
  split at h
  · rename_i cs' t fr e
    obtain rfl := Option.some.inj h
    exact ⟨t, fr, e⟩
  · cases h

theorem at_key : ∀ p ∈ opsT, (Rows.laid_escheat_command_ops (H := Unit)).atKey (.string p.1) (.lit (.int .i64 0)) = .lit (.int .i64 p.2) := by
  intro p hp
  simp only [opsT, List.mem_cons, List.not_mem_nil, or_false] at hp
  rcases hp with rfl | rfl | rfl | rfl | rfl | rfl | rfl | rfl | rfl <;> rfl

theorem zero3 (W : World) : (zeroValue 3).run Tryz.prog W = .ok (.int .i64 0) W := by kernel_rfl

set_option maxRecDepth 100000 in
/-- THE WALKS' ENVIRONMENT, out of the row's conditions. -/
theorem env_of_laid {W : World} (h : laidMetH Tryz.prog laidL W) (hs : W.ShapedOpen Tryz.prog) : Env W.heap.size W := by
  rw [MakeChecks.laidMetH_plain _ _ _ (by kernel_rfl)] at h
  obtain ⟨ps, ⟨_, _, _, _, _, _, _, _, _, _, ⟨_, _, _, _, _, _, _, _, _, _, ⟨g2, t2, cs2, f2, p2, q2, hg2, ht2, hv2, hd2, ⟨g3, t3, cs3, f3, p3, q3, hg3, ht3, hv3, hd3, _, _⟩, _⟩, _⟩, _⟩, _, _⟩ := h
  obtain rfl := Option.some.inj (gNamed.symm.trans hg2)
  obtain rfl := Option.some.inj (gOps.symm.trans hg3)
  obtain rfl := Option.some.inj (tNamed.symm.trans ht2)
  obtain rfl := Option.some.inj (tOps.symm.trans ht3)
  obtain ⟨t9, fr9, h9⟩ := heap_of_var gNamed hv2
  obtain rfl := named_of hd2
  have h9lt : 9 < W.heap.size := (Array.getElem?_eq_some_iff.1 h9).1
  refine ⟨by omega, Nat.le_refl _, ?_, ?_, h9lt, ⟨_, _, h9⟩⟩
  · exact Go.Proofs.cell_of_shapedOpen_int (zero := #[.int .i64 0]) (t := 3) hs (of_decide_eq_true (by kernel_rfl)) (by kernel_rfl) rfl (by kernel_rfl) (by kernel_rfl) Tryz.underlying3
  rcases open_map Tryz.underlying85 hd3 with ⟨_, hx⟩ | ⟨bm, es, clock, m, rfl, hcs, hb, _, F, hx⟩
  · simp [Rows.laid_escheat_command_ops] at hx
  simp only [Prod.mk.injEq] at hx
  have hcell : W.cell? ⟨0, 0, none⟩ = some (.map (some bm)) := by
    have := World.var?_cell gOps hv3 0
    rw [Array.eq_one_of_toList hcs] at this
    simpa using this
  have hbm : bm < W.heap.size := (Array.getElem?_eq_some_iff.1 hb).1
  refine ⟨bm, fun W' hW => ⟨(hW.cell (p := ⟨0, 0, none⟩) (by show 0 < _; omega)).trans hcell, fun p hp => ?_⟩⟩
  have hb' := (hW.block bm hbm).trans hb
  have hk := at_key p hp
  have hsz : (⟨p.1.toArray⟩ : ByteArray).size ≤ maxLen := by
    simp only [opsT, List.mem_cons, List.not_mem_nil, or_false] at hp
    rcases hp with rfl | rfl | rfl | rfl | rfl | rfl | rfl | rfl | rfl <;> decide
  rcases fit_lookup (w := W') keyLaw Tryz.underlying85 (zero3 W') hb' F (keyOf_string_mk (s := ⟨p.1.toArray⟩) Tryz.underlying9 hsz) with ⟨hrun, hat⟩ | ⟨v, y, hrun, hRv, hat, _⟩
  · have := hat (.lit (.int .i64 0))
    rw [← hx.1] at this
    rw [show ((⟨p.1.toArray⟩ : ByteArray).data.toList) = p.1 from rfl, hk] at this
    simp only [DataW.lit.injEq, Lit.int.injEq, true_and] at this
    rw [this]
    exact hrun
  · obtain ⟨r, rfl, rfl, _⟩ := elemAt_int Tryz.underlying3 hRv
    have := hat (.lit (.int .i64 0))
    rw [← hx.1] at this
    rw [show ((⟨p.1.toArray⟩ : ByteArray).data.toList) = p.1 from rfl, hk] at this
    simp only [DataW.lit.injEq, Lit.int.injEq, true_and] at this
    rw [this]
    exact hrun

end Go.Proofs.YtjamgkcmpcnfpaaGreatDoor

namespace Go.Proofs.YtjamgkcmpcnfpaaGreatDoor
open Go.ChangeShapes Go.WideShapes Go.ChangeAt Go.RowKit

theorem own : ownKnob Tryz.prog.godebug = none := by kernel_rfl
theorem kids : Kids Tryz.prog (· < Tryz.prog.types.size) := kids_rows (by kernel_rfl) (by kernel_rfl)
theorem full : ∀ t e, t < Tryz.prog.types.size → Tryz.prog.underlying t = some (.slice e) → 0 < Tryz.prog.cellsOf e := slices_full_of _ (by kernel_rfl)

section
variable {H : Type} {enc : TypeId × Value → H} {W W' : World} {base : Nat} {sp : Nat → Bool} {held : Bool}

/-- What was read reads again where its places are as they were. -/
theorem all_carry : ∀ {ts : List TypeId} {vs : List Value} {ds : List (DataW H)} {ps : List MemPlace}, DataW.TrodAll enc Tryz.prog W base sp held ts vs ds ps → (∀ p ∈ ps, W.sameAt W' p) → DataW.TrodAll enc Tryz.prog W' base sp held ts vs ds ps
  | [], [], [], _, h, _ => h
  | _ :: _, _ :: _, _ :: _, _, ⟨p, q, ⟨n, h1⟩, h2, e⟩, hs =>
    ⟨p, q, ⟨n, DataW.trod_carry n _ _ _ h1 fun x hx => hs x (by rw [e]; exact List.mem_append_left _ hx)⟩, all_carry h2 (fun x hx => hs x (by rw [e]; exact List.mem_append_right _ hx)), e⟩

theorem same_of_below (hb : Below W.heap.size W W') {p : MemPlace} (hp : p.block < W.heap.size) : W.sameAt W' p := by
  cases p with
  | cell b off => exact hb.cell (p := ⟨b, off, none⟩) hp
  | map b => exact hb.block b hp

/-- THE ROW's CONDITION BEHIND A CALL THAT RETURNS TRUE AND WRITES NOTHING THAT WAS THERE. -/
theorem law_post {f : Func} {s : ChangeSpec} {args : Array Value} {ds gs : List (DataW H)} {before : List MemPlace} (hv : s.vars = []) (hr : f.resultTypes = #[4]) (hT : ∀ t ∈ f.params.toList, t < Tryz.prog.types.size)
    (hfn : s.fn H (ds ++ gs) = { results := [.lit (.bool true)], args := ds }) (hW : DataW.Whole enc Tryz.prog f.params.toList s.vars false W args.toList ds gs before) (hb : Below W.heap.size W W') :
    s.post enc Tryz.prog f false true false false W args (.bool true) W' := by
  have hlt : ∀ p ∈ before, p.block < W.heap.size := fun p hp => hW.lt p hp
  obtain ⟨p, q, hA, hV, he, hz, hn⟩ := hW
  have hq : q = [] := by rw [hv] at hV; exact (trodVars_none hV).2
  have hg : gs = [] := by rw [hv] at hV; exact (trodVars_none hV).1
  subst hq
  subst hg
  rw [List.append_nil] at he
  subst he
  refine ⟨ds, [], before, [], before, [], ⟨before, [], hA, hV, by simp, hz, hn⟩, ?_, ?_, ?_, World.keptBut_mono (fun p hp => ⟨hp, Or.inr (Or.inl hp)⟩) (hb.frame (· ∈ before)), fun h => by cases h⟩
  · rw [hfn, hr]
    exact trodAll_mk1 (shut_bool Tryz.underlying4 true)
  · rw [hfn]
    exact (all_carry hA fun x hx => same_of_below hb (hlt x hx)).respare kids full hT fun x hx => by simpa using hlt x hx
  · rw [hfn, hv]
    rfl
end

end Go.Proofs.YtjamgkcmpcnfpaaGreatDoor

namespace Go.Proofs.YtjamgkcmpcnfpaaGreatDoor

section
variable {P : Program} {ops : Array Oper} {md : Region.Mode} {C : World → Prop} {n g : Nat}

/-- So many operations of the first n come up, quiet ones, in whatever order; then L holds. -/
def HeadQ (P : Program) (md : Region.Mode) (ops : Array Oper) (C : World → Prop) (n : Nat) (L : Array Bool → Act → Prop) : Nat → Array Bool → Act → Prop
  | 0, listed, a => L listed a
  | f + 1, listed, a => Region.ready md ops listed ≠ [] ∧ ∀ i ∈ Region.ready md ops listed, i < n ∧ qOp P ops C i (HeadQ P md ops C n L f (listed.setIfInBounds i true)) a

theorem HeadQ.any {L : Array Bool → Act → Prop} {Q' : Exit → Act → World → Prop} (hL : ∀ listed a w, C w → L listed a → wpAny P md ops Q' g listed a w) :
    ∀ (f : Nat) (listed : Array Bool) (a : Act) (w : World), C w → HeadQ P md ops C n L f listed a → wpAny P md ops Q' (f + g) listed a w
  | 0, listed, a, w, hw, h => by rw [Nat.zero_add]; exact hL _ _ _ hw h
  | f + 1, listed, a, w, hw, h => by
    rw [Nat.add_right_comm f 1 g]
    exact ⟨fun h0 => absurd h0 h.1, fun i hi => wpOp_of_qOp hw (fun a' w' hw' => HeadQ.any hL f _ a' w' hw') (h.2 i hi).2⟩

/-- An operation that is ready and free may come up first. -/
theorem HeadQ.first {i : Nat} {oi : Oper} {v : Value} {L : Array Bool → Act → Prop} (hi : ops[i]? = some oi) (hsel : ∀ (j : Nat) (o : Oper) cs b, ops[j]? = some o → o.op ≠ .select cs b)
    (hs : Region.sinkB md ops n = true) (hc : Region.chainB md ops n = true) (hn : n < ops.size) (hin : i < n)
    (hdone : ∀ listed a, L listed a → ∀ j ∈ Region.ready md ops listed, n ≤ j) :
    ∀ (f : Nat) (listed : Array Bool) (a : Act), HeadInv md ops n listed →
      (∀ j oj, ops[j]? = some oj → j ≠ i → listed.getD j true = false → (∀ e ∈ oj.after, Region.binds md e = true → e.on ≠ i) → oi.apart ops oj = true) →
      i ∈ Region.ready md ops listed → YieldsIn P ops C oi v a → HeadQ P md ops C n L f (listed.setIfInBounds i true) (a.put oi.dst v) → HeadQ P md ops C n L (f + 1) listed a := by
  intro f
  induction f with
  | zero =>
    intro listed a inv _ hr hy H
    refine ⟨fun h => (by rw [h] at hr; cases hr), fun j hj => ?_⟩
    have hjn : j < n := Nat.lt_of_not_le fun hle => tail_waits hs hc hn inv _ i rfl hin (mem_ready.1 hr).1 j hle hj
    refine ⟨hjn, ?_⟩
    by_cases hji : j = i
    · rw [hji]; exact hy.qOp hi H
    · exact absurd (hdone _ _ H j (ready_mono hj hji)) (by omega)
  | succ f ih =>
    intro listed a inv hfree hr hy H
    have hun := (mem_ready.1 hr).1
    refine ⟨fun h => (by rw [h] at hr; cases hr), fun j hj => ?_⟩
    have hjn : j < n := Nat.lt_of_not_le fun hle => tail_waits hs hc hn inv _ i rfl hin hun j hle hj
    refine ⟨hjn, ?_⟩
    by_cases hji : j = i
    · rw [hji]; exact hy.qOp hi H
    · obtain ⟨hjun, oj, hoj, hall⟩ := mem_ready.1 hj
      have hno : ∀ e ∈ oj.after, Region.binds md e = true → e.on ≠ i := fun e he hb heq => by
        have := hall e he hb
        rw [heq, getD_both hun] at this
        cases this
      refine qOp_mono (fun a' h3 => ih (listed.setIfInBounds j true) a' (inv.set hj hjn) (fun k ok hk hki hku hkn => hfree k ok hk hki ?_ hkn) (ready_mono hr (Ne.symm hji)) h3.1 ?_)
        (qOp_put hoj (hfree j oj hoj hji hjun hno) (fun cs b => hsel i oi cs b hi) (fun cs b => hsel j oj cs b hoj) hy (H.2 j (ready_mono hj hji)).2)
      · by_cases hjk : j = k
        · rw [← hjk]; exact hjun
        · rw [getD_set_ne true hjk] at hku; exact hku
      · rw [Array.setIfInBounds_comm _ _ hji]
        exact h3.2

theorem HeadQ.lex {Lq : Act → Prop} (hsel : Region.noSelect ops = true) (hs : Region.sinkB md ops n = true) (hc : Region.chainB md ops n = true) (hn : n < ops.size) :
    ∀ (l : List Oper) (k : Nat) (listed : Array Bool) (a : Act), (∀ j, j < l.length → l[j]? = ops[k + j]?) → k + l.length = n → HeadInv md ops n listed →
      Region.lexHead md ops g l.length k listed = true → wpQuiet P ops C Lq l a → HeadQ P md ops C n (fun listed' a' => Region.seqB md ops g n listed' = true ∧ Lq a') l.length listed a
  | [], k, listed, a, _, hk, _, hB, h => by
    obtain rfl : k = n := by simpa using hk
    exact ⟨hB, h⟩
  | o :: l, k, listed, a, hl, hk, inv, hB, h => by
    have h0 : ops[k]? = some o := by simpa using (hl 0 (by simp)).symm
    simp only [List.length_cons, Region.lexHead, Bool.and_eq_true] at hB hk
    obtain ⟨⟨hr, hf⟩, hB'⟩ := hB
    have hr' : k ∈ Region.ready md ops listed := by simpa using hr
    obtain ⟨v, hy, hK⟩ := yieldsIn_of_qOp (P := P) (C := C) h0 (show qOp P ops C k (wpQuiet P ops C Lq l) a by unfold qOp; simp only [h0]; exact h)
    exact HeadQ.first h0 (Region.noSelect_spec hsel) hs hc hn (by omega) (fun listed' a' hL => seqB_ready hL.1) l.length listed a inv (Region.free_spec h0 hf) hr' hy
      (HeadQ.lex hsel hs hc hn l (k + 1) _ _ (fun j hj => by have := hl (j + 1) (by simp; omega); simpa [Nat.add_assoc, Nat.add_comm 1 j] using this) (by omega) (inv.set hr' (by omega)) hB' hK)

/-- THE LAW: the first n operations quiet, walked once, in the text's order; the others behind them, in the one order that is left. -/
theorem wp_region_quiet_tail {id : Nat} {Q : Exit → Act → World → Prop} {a : Act} {w : World} {l : List Oper} (n : Nat) (hm : P.follows .mixedOrders = true) (hB : Region.lexTailB .any l.toArray n = true)
    (h : wpQuiet P l.toArray (fun w' => ∃ m, w' = w.drewN m) (fun a' => ∀ w', (∃ m, w' = w.drewN m) → wpList P l.toArray Q (l.drop n) a' w') (l.take n) a) : (Code.region id l.toArray true).wp P Q a w := by
  simp only [Region.lexTailB, Bool.and_eq_true, decide_eq_true_eq] at hB
  obtain ⟨⟨⟨⟨hsel, hn⟩, hs⟩, hc⟩, hlex⟩ := hB
  have hn' : n < l.length := by simpa using hn
  have htl : (l.take n).length = n := by simp; omega
  have hdl : (l.drop n).length = l.toArray.size - n := by simp
  have inv0 : HeadInv .any l.toArray n (Array.replicate l.toArray.size false) :=
    ⟨by simp, fun j oj _ hl => (by rw [getD_replicate_false] at hl; cases hl), fun t _ ht => getD_in (by simpa using ht) (getD_replicate_false _ _)⟩
  have H := HeadQ.lex (md := .any) (g := l.toArray.size - n) hsel hs hc hn (l.take n) 0 _ a (fun j hj => by
    have hj' : j < n := by rw [htl] at hj; exact hj
    simp [hj']) (by simpa using htl) inv0 (by rw [htl]; exact hlex) h
  refine wp_region_any hm ?_
  have := HeadQ.any (Q' := Q) (g := l.toArray.size - n) (fun listed a' w' hw' hL => by
    have := wpAny_of_seq (md := .any) (Q' := Q) (l.drop n) n listed a' w' (fun j => by simp [List.getElem?_drop]) (by rw [hdl]; exact hL.1) (hL.2 w' hw')
    rwa [hdl] at this) _ _ _ _ (show ∃ m, ({ w with drawn := w.drawn + 1 } : World) = w.drewN m from ⟨1, rfl⟩) H
  rw [htl, show n + (l.toArray.size - n) = l.toArray.size by omega] at this
  exact this
end
end Go.Proofs.YtjamgkcmpcnfpaaGreatDoor

namespace Go.Proofs.YtjamgkcmpcnfpaaGreatDoor
open Go.RowKit

/-- The parts of a line, as they lie in memory. -/
structure Src where
  b : Nat
  o : Nat
  n : Nat
  c : Nat
  L : Nat → ByteArray

/-- The cursor's cells: the parts; which one, which byte of it; whether something was wrong; the keys. -/
abbrev curC (S : Src) (i a : Nat) (bad : Bool) (kv : Value) : Array Value := #[.slice (some ⟨S.b, S.o, none⟩) S.n S.c, .int .i64 i, .int .i64 a, .bool bad, kv]

/-- The cursor's block, and the parts. -/
structure Cur (g : Nat) (S : Src) (w : World) (i a : Nat) (bad : Bool) (kv : Value) : Prop where
  hp : w.heap[g]? = some (.cells (curC S i a bad kv) 69 (0, 0))
  src : ∀ j, j < S.n → w.cell? ⟨S.b, S.o + j, none⟩ = some (.string (S.L j))
  hg : S.b ≠ g
  sz : ∀ j, j < S.n → (S.L j).size ≤ 2000
  hn : S.n ≤ 9
  hi : i < S.n
  ha : a ≤ (S.L i).size

theorem heap_set {w : World} {b : Nat} {cs : Array Value} {t : TypeId} {fr : Nat × Nat} (h : w.heap[b]? = some (.cells cs t fr)) (j : Nat) (v : Value) : (w.setCell ⟨b, j, none⟩ v).heap[b]? = some (.cells (cs.setIfInBounds j v) t fr) := by
  simp [World.setCell, Array.getElem?_modify, h]

section
variable {g : Nat} {S : Src} {w : World} {i a : Nat} {bad : Bool} {kv : Value}

theorem cell_hp {w : World} {x j : Nat} {cs : Array Value} {t : TypeId} {v : Value} (h : w.heap[x]? = some (.cells cs t (0, 0))) (hj : cs[j]? = some v) : w.cell? ⟨x, j, none⟩ = some v := by rw [Lib.cell_of_heap h]; exact hj

theorem Cur.c0 (h : Cur g S w i a bad kv) : w.cell? ⟨g, 0, none⟩ = some (.slice (some ⟨S.b, S.o, none⟩) S.n S.c) := cell_hp h.hp rfl
theorem Cur.c1 (h : Cur g S w i a bad kv) : w.cell? ⟨g, 1, none⟩ = some (.int .i64 i) := cell_hp h.hp rfl
theorem Cur.c2 (h : Cur g S w i a bad kv) : w.cell? ⟨g, 2, none⟩ = some (.int .i64 a) := cell_hp h.hp rfl
theorem Cur.c3 (h : Cur g S w i a bad kv) : w.cell? ⟨g, 3, none⟩ = some (.bool bad) := cell_hp h.hp rfl
theorem Cur.c4 (h : Cur g S w i a bad kv) : w.cell? ⟨g, 4, none⟩ = some kv := cell_hp h.hp rfl
theorem Cur.f1 (h : Cur g S w i a bad kv) : w.frozen? ⟨g, 1, none⟩ = false := Lib.frozen_of_heap h.hp 1
theorem Cur.f2 (h : Cur g S w i a bad kv) : w.frozen? ⟨g, 2, none⟩ = false := Lib.frozen_of_heap h.hp 2
theorem Cur.f3 (h : Cur g S w i a bad kv) : w.frozen? ⟨g, 3, none⟩ = false := Lib.frozen_of_heap h.hp 3
theorem Cur.f4 (h : Cur g S w i a bad kv) : w.frozen? ⟨g, 4, none⟩ = false := Lib.frozen_of_heap h.hp 4

theorem Cur.lt (h : Cur g S w i a bad kv) : g < w.heap.size := (Array.getElem?_eq_some_iff.1 h.hp).1
theorem Cur.slt (h : Cur g S w i a bad kv) : S.b < w.heap.size := World.block_lt_of_cell? _ _ (h.src i h.hi)
theorem Cur.at_ (h : Cur g S w i a bad kv) : w.cell? ⟨S.b, S.o + i, none⟩ = some (.string (S.L i)) := h.src i h.hi
theorem Cur.a2000 (h : Cur g S w i a bad kv) : a ≤ 2000 := Nat.le_trans h.ha (h.sz i h.hi)

/-- Blocks that were there, the cursor's and the parts' among them, stand. -/
theorem Cur.of_blocks {w' : World} (h : Cur g S w i a bad kv) (h1 : w'.heap[g]? = w.heap[g]?) (h2 : w'.heap[S.b]? = w.heap[S.b]?) : Cur g S w' i a bad kv :=
  ⟨h1.trans h.hp, fun j hj => (World.cell?_of_block (w := w) (a := ⟨S.b, S.o + j, none⟩) h2).trans (h.src j hj), h.hg, h.sz, h.hn, h.hi, h.ha⟩

theorem Cur.of_below {B : Nat} {w' : World} (h : Cur g S w i a bad kv) (hb : Below B w w') (h1 : g < B) (h2 : S.b < B) : Cur g S w' i a bad kv := h.of_blocks (hb.block g h1) (hb.block S.b h2)

theorem Cur.step {w' : World} (h : Cur g S w i a bad kv) (hb : Below w.heap.size w w') : Cur g S w' i a bad kv := h.of_below hb h.lt h.slt

theorem Cur.alloc (h : Cur g S w i a bad kv) (o : Obj) : Cur g S (w.alloc o) i a bad kv := h.step ((Below.refl _ w).alloc (Nat.le_refl _) o)
theorem Cur.drewN (h : Cur g S w i a bad kv) (m : Nat) : Cur g S (w.drewN m) i a bad kv := h.step ⟨rfl, rfl, rfl, Nat.le_refl _, fun _ _ => rfl⟩
theorem Cur.drew (h : Cur g S w i a bad kv) : Cur g S w.drew i a bad kv := h.step ⟨rfl, rfl, rfl, Nat.le_refl _, fun _ _ => rfl⟩

/-- A store elsewhere. -/
theorem Cur.other {p : Addr} (h : Cur g S w i a bad kv) (hp : p.block ≠ g) (hs : p.block ≠ S.b) (u : Value) : Cur g S (w.setCell p u) i a bad kv :=
  h.of_blocks (Below.heap_setCell _ _ _ _ (Ne.symm hp)) (Below.heap_setCell _ _ _ _ (Ne.symm hs))

theorem Cur.src_set (h : Cur g S w i a bad kv) (j : Nat) (v : Value) : ∀ k, k < S.n → (w.setCell ⟨g, j, none⟩ v).cell? ⟨S.b, S.o + k, none⟩ = some (.string (S.L k)) :=
  fun k hk => (World.cell?_of_block (w := w) (a := ⟨S.b, S.o + k, none⟩) (Below.heap_setCell _ ⟨g, j, none⟩ _ S.b h.hg)).trans (h.src k hk)

theorem Cur.set2 (h : Cur g S w i a bad kv) {a' : Nat} (ha : a' ≤ (S.L i).size) : Cur g S (w.setCell ⟨g, 2, none⟩ (.int .i64 a')) i a' bad kv :=
  ⟨by rw [heap_set h.hp]; rfl, h.src_set 2 _, h.hg, h.sz, h.hn, h.hi, ha⟩

theorem Cur.set3 (h : Cur g S w i a bad kv) (bad' : Bool) : Cur g S (w.setCell ⟨g, 3, none⟩ (.bool bad')) i a bad' kv :=
  ⟨by rw [heap_set h.hp]; rfl, h.src_set 3 _, h.hg, h.sz, h.hn, h.hi, h.ha⟩

theorem Cur.set4 (h : Cur g S w i a bad kv) (kv' : Value) : Cur g S (w.setCell ⟨g, 4, none⟩ kv') i a bad kv' :=
  ⟨by rw [heap_set h.hp]; rfl, h.src_set 4 _, h.hg, h.sz, h.hn, h.hi, h.ha⟩

theorem Cur.set12 (h : Cur g S w i a bad kv) {i' : Nat} (hi : i' < S.n) : Cur g S ((w.setCell ⟨g, 1, none⟩ (.int .i64 i')).setCell ⟨g, 2, none⟩ (.int .i64 0)) i' 0 bad kv :=
  ⟨by rw [heap_set (heap_set h.hp 1 _)]; rfl, fun k hk => (World.cell?_of_block (w := w.setCell ⟨g, 1, none⟩ (.int .i64 i')) (a := ⟨S.b, S.o + k, none⟩) (Below.heap_setCell _ ⟨g, 2, none⟩ _ S.b h.hg)).trans (h.src_set 1 _ k hk), h.hg, h.sz, h.hn, hi, Nat.zero_le _⟩
end

/-- How much is left to read. -/
def left (S : Src) (i a : Nat) : Nat := (S.n - i) * 2001 - a

/-- What a call of one of the cursor's methods leaves: no less was read, what was wrong stays wrong, all else that was there stands. -/
def Moves (g : Nat) (S : Src) (kv : Value) (r : Nat) (bad : Bool) (w w' : World) : Prop :=
  ∃ i a bad', Cur g S w' i a bad' kv ∧ Kept g w w' ∧ left S i a ≤ r ∧ (bad = true → bad' = true)

/-- The world under a letter, with what is known of it. -/
theorem gen_wp {Q : World → Prop} {P : Program} {c : Code} {E : Exit → Act → World → Prop} {a : Act} {W : World} (h : Q W) (k : ∀ W1, Q W1 → Code.wp P c E a W1) : Code.wp P c E a W := k W h

/-- The cursor's value. -/
abbrev CC (g : Nat) : Value := .pointer (some ⟨g, 0, none⟩)

/-- What comes next. -/
def peekV (S : Src) (i a : Nat) (bad : Bool) : Int := if bad then 0 else if a < (S.L i).size then byteAt (S.L i) a else 0

set_option maxHeartbeats 400000 in
theorem peek_any (g : Nat) (S : Src) (i a : Nat) (bad : Bool) (kv : Value) (w : World) (h : Cur g S w i a bad kv) :
    Calls Tryz.prog 61 #[CC g] w fun e w' => e = .returned (.int .u8 (peekV S i a bad)) ∧ ∃ m, w' = w.drewN m := by
  have h0 := h.c0
  have h1 := h.c1
  have h2 := h.c2
  have h3 := h.c3
  have hs := h.at_
  have hi := h.hi
  have hn := h.hn
  have ha := h.a2000
  have hsz := h.sz i hi
  clear h
  unfold peekV
  cases bad
  · by_cases hc : a < (S.L i).size
    · have hb := Lib.hid (byteAt_of (S.L i) a hc)
      go_enter Tryz.func61, Tryz.ntmps61
      go_wp2_with fail
      go_quiet (fail)
      go_wp2_with fail
      go_quiet (fail)
      go_wp2_with fail
      go_ret
      exact ⟨by simp [hc, hb.out], _, rfl⟩
    · go_enter Tryz.func61, Tryz.ntmps61
      go_wp2_with fail
      go_quiet (fail)
      go_wp2_with fail
      go_ret
      exact ⟨by simp [hc], _, rfl⟩
  · go_enter Tryz.func61, Tryz.ntmps61
    go_wp2_with fail
    go_quiet (fail)
    go_wp2_with fail
    go_ret
    exact ⟨rfl, _, rfl⟩

set_option maxHeartbeats 400000 in
theorem fail_any (g : Nat) (S : Src) (i a : Nat) (bad b : Bool) (kv : Value) (w : World) (h : Cur g S w i a bad kv) :
    Calls Tryz.prog 38 #[CC g, .bool b] w fun e w' => e = .returned (.tuple #[]) ∧ Cur g S w' i a (bad || b) kv ∧ Kept g w w' := by
  have h3 := h.c3
  have f3 := h.f3
  have H := Lib.hid h
  clear h
  cases bad
  · go_enter Tryz.func38, Tryz.ntmps38
    go_wp2_with fail
    go_end0
    exact ⟨rfl, H.out.set3 _, (Kept.refl _ _).setg 3 _⟩
  · go_enter Tryz.func38, Tryz.ntmps38
    go_wp2_with fail
    go_end0
    exact ⟨rfl, H.out.set3 _, (Kept.refl _ _).setg 3 _⟩

set_option maxHeartbeats 400000 in
theorem cover_any (g : Nat) (S : Src) (i a : Nat) (bad : Bool) (kv : Value) (w : World) (h : Cur g S w i a bad kv) :
    Calls Tryz.prog 40 #[CC g] w fun e w' => ∃ v : Bool, e = .returned (.bool v) ∧ ∃ m, w' = w.drewN m := by
  have h0 := h.c0
  have h1 := h.c1
  have h2 := h.c2
  have h3 := h.c3
  have hs := h.at_
  have hi := h.hi
  have hn := h.hn
  have ha := h.a2000
  have hsz := h.sz i hi
  clear h
  have hw1 : IntKind.i64.wrap ((S.n : Int) - 1) = (S.n : Int) - 1 := IntWalk.i64_in _ (by omega)
  by_cases hl : i + 1 = S.n
  · have hl' : ((i : Int) == (S.n : Int) - 1) = true := by simp; omega
    clear hl
    go_enter Tryz.func40, Tryz.ntmps40
    go_wp2_with fail
    go_quiet (fail)
    go_wp2_with fail
    go_ret
    exact ⟨_, rfl, _, rfl⟩
  · have hl' : ((i : Int) == (S.n : Int) - 1) = false := by simp; omega
    clear hl
    go_enter Tryz.func40, Tryz.ntmps40
    go_wp2_with fail
    go_quiet (fail)
    go_wp2_with fail
    go_ret
    exact ⟨_, rfl, _, rfl⟩

/-- What a byte that must come leaves: less is left, or something is wrong. -/
def Eats (g : Nat) (S : Src) (kv : Value) (r : Nat) (bad : Bool) (w w' : World) : Prop :=
  ∃ i a bad', Cur g S w' i a bad' kv ∧ Kept g w w' ∧ left S i a ≤ r ∧ (bad' = true ∨ left S i a < r) ∧ (bad = true → bad' = true)

theorem left_up {S : Src} {i a : Nat} (hi : i < S.n) (ha : a < 2000) : left S i (a + 1) < left S i a := by
  unfold left
  have : 2001 ≤ (S.n - i) * 2001 := Nat.le_mul_of_pos_left _ (by omega)
  omega

set_option maxHeartbeats 4000000 in
theorem eat_any (g : Nat) (S : Src) (i a : Nat) (bad : Bool) (kv : Value) (b : Int) (w : World) (h : Cur g S w i a bad kv) :
    Calls Tryz.prog 35 #[CC g, .int .u8 b] w fun e w' => e = .returned (.tuple #[]) ∧ Eats g S kv (left S i a) bad w w' := by
  have h0 := h.c0
  have h1 := h.c1
  have h2 := h.c2
  have h3 := h.c3
  have hs := h.at_
  have hi := h.hi
  have hn := h.hn
  have ha := h.a2000
  have hsz := h.sz i hi
  have H := Lib.hid h
  have HP := Lib.hid (fun n => peek_any g S i a bad kv (w.drewN n) (h.drewN n))
  clear h
  obtain ⟨v, hv⟩ : ∃ v, v = peekV S i a bad := ⟨_, rfl⟩
  rw [← hv] at HP
  clear hv
  have wrongs : ∀ (w' : World), Cur g S w' i a true kv → Kept g w w' → Eats g S kv (left S i a) bad w w' := fun w' hC hK => ⟨i, a, _, hC, hK, Nat.le_refl _, .inl (by simp), by simp⟩
  have HW := Lib.hid wrongs
  clear wrongs
  by_cases hvb : v = b
  · subst hvb
    by_cases hlt : a < (S.L i).size
    · go_enter Tryz.func35, Tryz.ntmps35
      go_wp2_with fail
      refine wp_region_quiet_tail 23 (by kernel_rfl) (by kernel_rfl) ?_
      simp only [List.take_succ_cons, List.take_zero, List.drop_succ_cons, List.drop_zero]
      repeat (go_big_quiet_step ((go_at_call 61; exact Calls.quiet_of (HP.out _))))
      refine wpQuiet_nil ?_
      rintro w1 ⟨m, rfl⟩
      go_wp2_with fail
      refine (fail_any g S i a bad _ kv _ (H.out.drewN _)).mono ?_
      rintro e w2 ⟨rfl, hC, hK⟩
      rw [show decide ((S.L i).size ≤ a) = false by simp; omega, Bool.or_false] at hC
      have c2 := hC.c2
      have f2 := hC.f2
      have c3 := hC.c3
      have HC := Lib.hid hC
      have HK := Lib.hid (((Kept.refl g w).drewN m).trans hK)
      clear hC hK h0 h1 h2 h3 hs
      cases bad
      · go_wp2_with fail
        go_end0
        exact ⟨rfl, i, a + 1, _, HC.out.set2 hlt, HK.out.setg 2 _, Nat.le_of_lt (left_up hi (by omega)), .inr (left_up hi (by omega)), fun h => by cases h⟩
      · go_wp2_with fail
        go_end0
        exact ⟨rfl, i, a, _, HC.out, HK.out, Nat.le_refl _, .inl rfl, fun _ => rfl⟩
    · go_enter Tryz.func35, Tryz.ntmps35
      go_wp2_with fail
      refine wp_region_quiet_tail 23 (by kernel_rfl) (by kernel_rfl) ?_
      simp only [List.take_succ_cons, List.take_zero, List.drop_succ_cons, List.drop_zero]
      repeat (go_big_quiet_step ((go_at_call 61; exact Calls.quiet_of (HP.out _))))
      refine wpQuiet_nil ?_
      rintro w1 ⟨m, rfl⟩
      go_wp2_with fail
      refine (fail_any g S i a bad _ kv _ (H.out.drewN _)).mono ?_
      rintro e w2 ⟨rfl, hC, hK⟩
      rw [show decide ((S.L i).size ≤ a) = true by simp; omega, Bool.or_true] at hC
      have c3 := hC.c3
      have HC := Lib.hid hC
      have HK := Lib.hid (((Kept.refl g w).drewN m).trans hK)
      clear hC hK h0 h1 h2 h3 hs
      go_wp2_with fail
      go_end0
      exact ⟨rfl, HW.out _ HC.out HK.out⟩
  · have hvb' : (v != b) = true := by simpa using hvb
    go_enter Tryz.func35, Tryz.ntmps35
    go_wp2_with fail
    refine wp_region_quiet_tail 23 (by kernel_rfl) (by kernel_rfl) ?_
    simp only [List.take_succ_cons, List.take_zero, List.drop_succ_cons, List.drop_zero]
    repeat (go_big_quiet_step ((go_at_call 61; exact Calls.quiet_of (HP.out _))))
    refine wpQuiet_nil ?_
    rintro w1 ⟨m, rfl⟩
    go_wp2_with fail
    refine (fail_any g S i a bad _ kv _ (H.out.drewN _)).mono ?_
    rintro e w2 ⟨rfl, hC, hK⟩
    rw [Bool.or_true] at hC
    have c3 := hC.c3
    have HC := Lib.hid hC
    have HK := Lib.hid (((Kept.refl g w).drewN m).trans hK)
    clear hC hK h0 h1 h2 h3 hs
    go_wp2_with fail
    go_end0
    exact ⟨rfl, HW.out _ HC.out HK.out⟩

set_option maxHeartbeats 4000000 in
theorem if1_any (g : Nat) (S : Src) (i a : Nat) (bad : Bool) (kv : Value) (b : Int) (w : World) (h : Cur g S w i a bad kv) :
    Calls Tryz.prog 96 #[CC g, .int .u8 b] w fun e w' => ∃ v : Bool, e = .returned (.bool v) ∧ Moves g S kv (left S i a) bad w w' ∧ (bad = true → v = false) := by
  have h0 := h.c0
  have h1 := h.c1
  have h2 := h.c2
  have h3 := h.c3
  have f2 := h.f2
  have hs := h.at_
  have hi := h.hi
  have hn := h.hn
  have ha := h.a2000
  have hsz := h.sz i hi
  have H := Lib.hid h
  have HP := Lib.hid (fun n => peek_any g S i a bad kv (w.drewN n) (h.drewN n))
  clear h
  obtain ⟨v, hv⟩ : ∃ v, v = peekV S i a bad := ⟨_, rfl⟩
  rw [← hv] at HP
  clear hv
  have hno : ∀ m, Moves g S kv (left S i a) bad w (w.drewN m) := fun m => ⟨i, a, bad, H.out.drewN _, (Kept.refl _ _).drewN m, Nat.le_refl _, id⟩
  have HN := Lib.hid hno
  clear hno
  by_cases hvb : v = b
  · subst hvb
    by_cases hlt : a < (S.L i).size
    · cases bad
      · go_enter Tryz.func96, Tryz.ntmps96
        go_wp2_with fail
        go_quiet ((go_at_call 61; exact Calls.quiet_of (HP.out _)))
        go_wp2_with fail
        go_ret
        exact ⟨_, rfl, ⟨i, a + 1, _, (H.out.drewN _).set2 hlt, ((Kept.refl _ _).drewN _).setg 2 _, Nat.le_of_lt (left_up hi (by omega)), fun h => by cases h⟩, fun h => by cases h⟩
      · go_enter Tryz.func96, Tryz.ntmps96
        go_wp2_with fail
        go_quiet ((go_at_call 61; exact Calls.quiet_of (HP.out _)))
        go_wp2_with fail
        go_ret
        first | exact ⟨_, rfl, HN.out _, fun _ => rfl⟩ | exact ⟨_, rfl, HN.out _⟩
    · go_enter Tryz.func96, Tryz.ntmps96
      go_wp2_with fail
      go_quiet ((go_at_call 61; exact Calls.quiet_of (HP.out _)))
      go_wp2_with fail
      go_ret
      first | exact ⟨_, rfl, HN.out _, fun _ => rfl⟩ | exact ⟨_, rfl, HN.out _⟩
  · have hvb' : (v != b) = true := by simpa using hvb
    go_enter Tryz.func96, Tryz.ntmps96
    go_wp2_with fail
    go_quiet ((go_at_call 61; exact Calls.quiet_of (HP.out _)))
    go_wp2_with fail
    go_ret
    first | exact ⟨_, rfl, HN.out _, fun _ => rfl⟩ | exact ⟨_, rfl, HN.out _⟩

end Go.Proofs.YtjamgkcmpcnfpaaGreatDoor
