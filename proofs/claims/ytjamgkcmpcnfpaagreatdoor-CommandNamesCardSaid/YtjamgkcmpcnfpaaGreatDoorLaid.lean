/-
  What the row's listed variables give the walks: the map of names, the flags' names; bytealg.MaxLen's cell holds some number.
-/
import Derived.Test.YtjamgkcmpcnfpaaGreatDoorLines
import Derived.Test.YtjamgkcmpcnfpaaGreatDoorRows
import Derived.LaidMore
import Derived.OpenShut
import Derived.ProofKit
import Derived.Shelf.Vars
namespace Go.Proofs.YtjamgkcmpcnfpaaGreatDoor
open Go.ChangeShapes Go.WideShapes Go.ChangeAt Go.WideMaps Go.WideElems Go.RowKit

theorem gOps : Tryz.prog.globalNamed "escheat/command.ops" = some 0 := by kernel_rfl
theorem gNamed : Tryz.prog.globalNamed "escheat/flag.named" = some 9 := by kernel_rfl
theorem gMax : Tryz.prog.globalNamed "internal/bytealg.MaxLen" = some 4 := by kernel_rfl
theorem tOps : (Tryz.prog.globals[0]?).map (·.type) = some 85 := by kernel_rfl
theorem tNamed : (Tryz.prog.globals[9]?).map (·.type) = some 165 := by kernel_rfl
theorem keyLaw : KeyLaw Tryz.prog 9 := string_law Tryz.underlying9
theorem c165 : Tryz.prog.cellsOf 165 = 10 := by kernel_rfl
theorem c164 : Tryz.prog.cellsOf 164 = 2 := by kernel_rfl
theorem c9 : Tryz.prog.cellsOf 9 = 1 := by kernel_rfl
theorem c3 : Tryz.prog.cellsOf 3 = 1 := by kernel_rfl

/-- What the rows list. -/
abbrev laidL : List (String × DataW Unit) := [("math/bits.deBruijn32tab", Rows.laid_math_bits_deBruijn32tab), ("math/bits.deBruijn64tab", Rows.laid_math_bits_deBruijn64tab), ("escheat/flag.named", Rows.laid_escheat_flag_named), ("escheat/command.ops", Rows.laid_escheat_command_ops)]

section
variable {H : Type} {enc : TypeId × Value → H} {w : World} {base : Nat} {sp : Nat → Bool} {held : Bool}

theorem str_of {fuel : Nat} {v : Value} {s : List UInt8} {p : List MemPlace} (h : DataW.trod enc Tryz.prog w base sp held fuel 9 [v] = some (.lit (.string s), p)) : v = .string ⟨s.toArray⟩ := by
  obtain ⟨s', hc, hx, _⟩ := DataW.trod_string Tryz.underlying9 h
  simp only [Prod.mk.injEq, DataW.lit.injEq, Lit.string.injEq] at hx
  simp only [List.cons.injEq, and_true] at hc
  rw [hc, hx.1]

theorem int_of {fuel : Nat} {v : Value} {n : Int} {p : List MemPlace} (h : DataW.trod enc Tryz.prog w base sp held fuel 3 [v] = some (.lit (.int .i64 n), p)) : v = .int .i64 n := by
  obtain ⟨n', hc, hx, _⟩ := DataW.trod_int Tryz.underlying3 h
  simp only [Prod.mk.injEq, DataW.lit.injEq, Lit.int.injEq, true_and] at hx
  simp only [List.cons.injEq, and_true] at hc
  rw [hc, hx.1]

theorem flag_of {fuel : Nat} {a b : Value} {s : List UInt8} {n : Int} {p : List MemPlace} (h : DataW.trod enc Tryz.prog w base sp held fuel 164 [a, b] = some (.agg [.lit (.string s), .lit (.int .i64 n)], p)) : a = .string ⟨s.toArray⟩ ∧ b = .int .i64 n := by
  obtain ⟨y0, y1, m, hx, _, h0, h1⟩ := trod_struct2 Tryz.underlying164 h
  simp only [Prod.mk.injEq, DataW.agg.injEq, List.cons.injEq, and_true] at hx
  obtain ⟨⟨e0, e1⟩, _⟩ := hx
  obtain ⟨d0, p0⟩ := y0
  obtain ⟨d1, p1⟩ := y1
  subst e0
  subst e1
  exact ⟨str_of (by simpa [c9] using h0), int_of (by simpa [c3] using h1)⟩
end

set_option maxRecDepth 100000 in
/-- The flags' names stand in block 9. -/
theorem named_of {W : World} {cs : Array Value} {fuel : Nat} {p : List MemPlace} (h : DataW.trod (fun _ => ()) Tryz.prog W 0 (fun _ => true) false fuel 165 cs.toList = some (Rows.laid_escheat_flag_named, p)) : cs = namedC := by
  obtain ⟨l⟩ := cs
  obtain ⟨xs, m, _, hx, hlen, hn, hel⟩ := DataW.trod_array Tryz.underlying165 h
  rw [c165] at hlen
  simp only [Prod.mk.injEq, Rows.laid_escheat_flag_named, DataW.agg.injEq] at hx
  obtain ⟨hx, _⟩ := hx
  match xs, hn, l, hlen with
  | [x0, x1, x2, x3, x4], _, [a0, a1, a2, a3, a4, a5, a6, a7, a8, a9], _ =>
    simp only [List.map_cons, List.map_nil, List.cons.injEq, and_true] at hx
    obtain ⟨e0, e1, e2, e3, e4⟩ := hx
    have h0 := hel 0 (by decide)
    have h1 := hel 1 (by decide)
    have h2 := hel 2 (by decide)
    have h3 := hel 3 (by decide)
    have h4 := hel 4 (by decide)
    obtain ⟨d0, p0⟩ := x0
    obtain ⟨d1, p1⟩ := x1
    obtain ⟨d2, p2⟩ := x2
    obtain ⟨d3, p3⟩ := x3
    obtain ⟨d4, p4⟩ := x4
    subst e0; subst e1; subst e2; subst e3; subst e4
    simp [c164] at h0 h1 h2 h3 h4
    obtain ⟨rfl, rfl⟩ := flag_of h0
    obtain ⟨rfl, rfl⟩ := flag_of h1
    obtain ⟨rfl, rfl⟩ := flag_of h2
    obtain ⟨rfl, rfl⟩ := flag_of h3
    obtain ⟨rfl, rfl⟩ := flag_of h4
    rfl

theorem heap_of_var {W : World} {name : String} {g : Nat} {cs : Array Value} (hg : Tryz.prog.globalNamed name = some g) (h : W.var? Tryz.prog name = some cs) : ∃ t fr, W.heap[g]? = some (.cells cs t fr) := by
  unfold World.var? at h
  rw [hg] at h
  simp only [Option.bind_some] at h
  split at h
  · rename_i cs' t fr e
    obtain rfl := Option.some.inj h
    exact ⟨t, fr, e⟩
  · cases h

theorem at_key : ∀ p ∈ opsT, (Rows.laid_escheat_command_ops (H := Unit)).atKey (.string p.1) (.lit (.int .i64 0)) = .lit (.int .i64 p.2) := by
  intro p hp
  simp only [opsT, List.mem_cons, List.not_mem_nil, or_false] at hp
  rcases hp with rfl | rfl | rfl | rfl | rfl | rfl | rfl | rfl | rfl <;> rfl

theorem zero3 (W : World) : (zeroValue 3).run Tryz.prog W = .ok (.int .i64 0) W := by kernel_rfl

set_option maxRecDepth 100000 in
/-- THE WALKS' ENVIRONMENT, out of the row's conditions. -/
theorem env_of_laid {W : World} (h : laidMetH Tryz.prog laidL W) (hs : W.ShapedOpen Tryz.prog) : Env W.heap.size W := by
  rw [MakeChecks.laidMetH_plain _ _ _ (by kernel_rfl)] at h
  obtain ⟨ps, ⟨_, _, _, _, _, _, _, _, _, _, ⟨_, _, _, _, _, _, _, _, _, _, ⟨g2, t2, cs2, f2, p2, q2, hg2, ht2, hv2, hd2, ⟨g3, t3, cs3, f3, p3, q3, hg3, ht3, hv3, hd3, _, _⟩, _⟩, _⟩, _⟩, _, _⟩ := h
  obtain rfl := Option.some.inj (gNamed.symm.trans hg2)
  obtain rfl := Option.some.inj (gOps.symm.trans hg3)
  obtain rfl := Option.some.inj (tNamed.symm.trans ht2)
  obtain rfl := Option.some.inj (tOps.symm.trans ht3)
  obtain ⟨t9, fr9, h9⟩ := heap_of_var gNamed hv2
  obtain rfl := named_of hd2
  have h9lt : 9 < W.heap.size := (Array.getElem?_eq_some_iff.1 h9).1
  refine ⟨by omega, Nat.le_refl _, ?_, ?_, h9lt, ⟨_, _, h9⟩⟩
  · exact Go.Proofs.cell_of_shapedOpen_int (zero := #[.int .i64 0]) (t := 3) hs (of_decide_eq_true (by kernel_rfl)) (by kernel_rfl) rfl (by kernel_rfl) (by kernel_rfl) Tryz.underlying3
  rcases open_map Tryz.underlying85 hd3 with ⟨_, hx⟩ | ⟨bm, es, clock, m, rfl, hcs, hb, _, F, hx⟩
  · simp [Rows.laid_escheat_command_ops] at hx
  simp only [Prod.mk.injEq] at hx
  have hcell : W.cell? ⟨0, 0, none⟩ = some (.map (some bm)) := by
    have := World.var?_cell gOps hv3 0
    rw [Array.eq_one_of_toList hcs] at this
    simpa using this
  have hbm : bm < W.heap.size := (Array.getElem?_eq_some_iff.1 hb).1
  refine ⟨bm, fun W' hW => ⟨(hW.cell (p := ⟨0, 0, none⟩) (by show 0 < _; omega)).trans hcell, fun p hp => ?_⟩⟩
  have hb' := (hW.block bm hbm).trans hb
  have hk := at_key p hp
  have hsz : (⟨p.1.toArray⟩ : ByteArray).size ≤ maxLen := by
    simp only [opsT, List.mem_cons, List.not_mem_nil, or_false] at hp
    rcases hp with rfl | rfl | rfl | rfl | rfl | rfl | rfl | rfl | rfl <;> decide
  rcases fit_lookup (w := W') keyLaw Tryz.underlying85 (zero3 W') hb' F (keyOf_string_mk (s := ⟨p.1.toArray⟩) Tryz.underlying9 hsz) with ⟨hrun, hat⟩ | ⟨v, y, hrun, hRv, hat, _⟩
  · have := hat (.lit (.int .i64 0))
    rw [← hx.1] at this
    rw [show ((⟨p.1.toArray⟩ : ByteArray).data.toList) = p.1 from rfl, hk] at this
    simp only [DataW.lit.injEq, Lit.int.injEq, true_and] at this
    rw [this]
    exact hrun
  · obtain ⟨r, rfl, rfl, _⟩ := elemAt_int Tryz.underlying3 hRv
    have := hat (.lit (.int .i64 0))
    rw [← hx.1] at this
    rw [show ((⟨p.1.toArray⟩ : ByteArray).data.toList) = p.1 from rfl, hk] at this
    simp only [DataW.lit.injEq, Lit.int.injEq, true_and] at this
    rw [this]
    exact hrun

end Go.Proofs.YtjamgkcmpcnfpaaGreatDoor
