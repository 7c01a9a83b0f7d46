/-
  The document's 'Same' of sets, at two rows of the same ranges.
-/
import Derived.Test.YtjamgkcmpcnfpaaGreatDoorSames
import Derived.BigQuiet
import Derived.Laws.StructEq
namespace Go.Proofs.YtjamgkcmpcnfpaaGreatDoor
open Go.RowKit

section
variable {Pg : Program} {d : Nat} {xs ys : Array Value} {f : Field} {fs : List Field} {a b : Value} {r s : Bool} {w : World}
theorem fld_last (hn : (f.name == "_") = false) (ha : (part f.type xs f.offset).run Pg w = .ok a w) (hb : (part f.type ys f.offset).run Pg w = .ok b w) (he : (Op.equalIn d f.type a b).run Pg w = .ok r w) : (Op.eqFields d xs ys [f]).run Pg w = .ok r w := by
  have hn' : f.name ≠ "_" := by simpa using hn
  simp only [Op.eqFields, if_pos hn', Sem.run_bind, ha, hb, he, Result.andThen_ok]
  cases r <;> simp
theorem fld_cons (hn : (f.name == "_") = false) (ha : (part f.type xs f.offset).run Pg w = .ok a w) (hb : (part f.type ys f.offset).run Pg w = .ok b w) (he : (Op.equalIn d f.type a b).run Pg w = .ok r w) (hr : (Op.eqFields d xs ys fs).run Pg w = .ok s w) : (Op.eqFields d xs ys (f :: fs)).run Pg w = .ok (r && s) w := by
  have hn' : f.name ≠ "_" := by simpa using hn
  rw [Op.eqFields]
  simp only [if_pos hn', Sem.run_bind, ha, hb, he, Result.andThen_ok]
  cases r
  · simp
  · simpa using hr
theorem agg_eq {t : TypeId} {fs : Array Field} (hu : Pg.underlying t = some (.struct fs)) (hp : Pg.stoodInHeld t = false) (h : (Op.eqFields d xs ys fs.toList).run Pg w = .ok r w) : (Op.equalIn (d + 1) t (.agg xs) (.agg ys)).run Pg w = .ok r w := by
  have hf : Pg.fieldsOf t = fs := by simp [Program.fieldsOf, hu]
  rw [run_equalIn_struct (P := Pg) w d t xs ys (by rw [hf]; exact hu) hp, hf]
  exact h
end

theorem range_eq (d : Nat) (w : World) (x0 y0 : Int) (x1 y1 : Int) :
    (Op.equalIn (d + 2) 64 (.agg #[.int .i64 x0, .int .i64 x1]) (.agg #[.int .i64 y0, .int .i64 y1])).run Tryz.prog w = .ok (x0 == y0 && (x1 == y1)) w := by
  refine agg_eq Tryz.underlying64 (by kernel_rfl) ?_
  refine fld_cons (by rfl) (by go_simp; rfl) (by go_simp; rfl) (by go_simp) ?_
  exact fld_last (by rfl) (by go_simp; rfl) (by go_simp; rfl) (by go_simp)

/-- A row of ranges lies in memory. -/
def RowAt (w : World) (b o n : Nat) (rs : List (Nat × Nat)) : Prop :=
  ∀ i, i < n → w.cell? ⟨b, o + i * 2, none⟩ = some (.int .i64 (rs.getD i (0, 0)).1) ∧ w.cell? ⟨b, o + i * 2 + 1, none⟩ = some (.int .i64 (rs.getD i (0, 0)).2)

set_option maxHeartbeats 2000000 in
theorem Same09_eq (b1 o1 b2 o2 n c1 c2 : Nat) (rs : List (Nat × Nat)) (w : World) (hmax : n ≤ 60) (h1 : RowAt w b1 o1 n rs) (h2 : RowAt w b2 o2 n rs) :
    Calls Tryz.prog 16 #[.slice (some ⟨b1, o1, none⟩) n c1, .slice (some ⟨b2, o2, none⟩) n c2] w fun e w' => e = .returned (.bool true) ∧ Below w.heap.size w w' := by
  have H1 := Lib.hid h1; clear h1
  have H2 := Lib.hid h2; clear h2
  have hu64 := Tryz.underlying64
  have heq := range_eq
  go_enter Tryz.func16, Tryz.ntmps16
  go_wp2_with fail
  go_loopw [5] (fun i wr => ∃ k : Nat, k ≤ n ∧ i = .int .i64 k ∧ ∃ m, wr = w.drewN m) (fun i _ => n - (intOf i).toNat)
  case atStart => exact ⟨0, by omega, rfl, 0, rfl⟩
  case round =>
    obtain ⟨k, hk, rfl, m, rfl⟩ := hrel
    by_cases hlt : k < n
    · obtain ⟨p1, p2⟩ := H1.out k hlt
      obtain ⟨q1, q2⟩ := H2.out k hlt
      generalize (rs.getD k (0, 0)).1 = x at *
      generalize (rs.getD k (0, 0)).2 = y at *
      go_wp2_with fail
      go_quiet (fail)
      go_wp2_with fail
      go_roundw
      case rel => exact ⟨k + 1, by omega, by go_num, _, rfl⟩
      case measure => simp [intOf]; omega
    · go_wp2_with fail
      go_ret
      exact ⟨rfl, rfl, rfl, rfl, Nat.le_refl _, fun _ _ => rfl⟩

end Go.Proofs.YtjamgkcmpcnfpaaGreatDoor
