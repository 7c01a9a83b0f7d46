/-
  What stands of a world: the blocks of one type; what a section, an item, a command look like in memory.
  Parse, at whole lines: a name as an atom, quoted, as a literal; a copy.
  The document's 'Same', at two commands that have no lists.
  The document's 'Same' of sets, at two rows of the same ranges.
-/
import Derived.Test.YtjamgkcmpcnfpaaGreatDoorS12
import Derived.Test.YtjamgkcmpcnfpaaGreatDoorS05
import Derived.Test.YtjamgkcmpcnfpaaGreatDoorS06
import Derived.BigQuiet
import Derived.Laws.StructEq
set_option linter.unusedVariables false
set_option linter.unusedSimpArgs false

namespace Go.Proofs.YtjamgkcmpcnfpaaGreatDoor
open Go.RowKit

/-- The blocks of a type stand. -/
def Typed (e : TypeId) (W W' : World) : Prop := ∀ (k : Nat) (cs : Array Value) (fr : Nat × Nat), W.heap[k]? = some (.cells cs e fr) → W'.heap[k]? = W.heap[k]?

section
variable {e : TypeId} {B sz n g : Nat} {Ok : List Value → Prop} {v : Value} {W W' W2 : World}

theorem Typed.refl (e : TypeId) (W : World) : Typed e W W := fun _ _ _ _ => rfl

theorem Typed.trans (h : Typed e W W') (k : Typed e W' W2) : Typed e W W2 := fun i cs fr hi =>
  (k i cs fr ((h i cs fr hi).trans hi)).trans (h i cs fr hi)

theorem Rowed.typed (h : Rowed B e sz Ok v n W) (ht : Typed e W W') : Rowed B e sz Ok v n W' :=
  h.kept fun k hk => by
    obtain ⟨cs, fr, hh⟩ := h.type_ hk
    exact ht k cs fr hh

theorem Kept.typed {t : TypeId} {cs : Array Value} {fr : Nat × Nat} (hK : Kept g W W') (hg : W.heap[g]? = some (.cells cs t fr)) (hne : t ≠ e) : Typed e W W' := fun k cs' fr' hk =>
  hK.block k (Array.getElem?_eq_some_iff.1 hk).1 fun e1 => by subst e1; rw [hg] at hk; injection hk with hk; injection hk with _ hk; exact hne hk

theorem Below.typed (hb : Below W.heap.size W W') : Typed e W W' := fun k _ _ hk => hb.block k (Array.getElem?_eq_some_iff.1 hk).1

theorem Typed.alloc (W : World) (o : Obj) : Typed e W (W.alloc o) := Below.typed ((Below.refl _ W).alloc (Nat.le_refl _) o)

theorem Typed.drew (W : World) : Typed e W W.drew := fun _ _ _ _ => rfl

theorem Typed.drewN (W : World) (m : Nat) : Typed e W (W.drewN m) := fun _ _ _ _ => rfl

theorem Typed.set {x j : Nat} {u : Value} {t : TypeId} {cs : Array Value} {fr : Nat × Nat} (hX : W.heap[x]? = some (.cells cs t fr)) (hne : t ≠ e) : Typed e W (W.setCell ⟨x, j, none⟩ u) := fun k cs' fr' hk =>
  Below.heap_setCell W ⟨x, j, none⟩ u k fun e1 => by rw [e1] at hk; rw [hX] at hk; injection hk with hk; injection hk with _ hk; exact hne hk

theorem Typed.grown {row : Option Nat} (h : W.grownBy W' row) (hr : ∀ k, row = some k → ∃ cs fr t, W.heap[k]? = some (.cells cs t fr) ∧ t ≠ e) : Typed e W W' := fun k cs fr hk =>
  h.block k (Array.getElem?_eq_some_iff.1 hk).1 fun e1 => by
    obtain ⟨cs', fr', t, hh, ht⟩ := hr k e1.symm
    rw [hh] at hk
    injection hk with hk
    injection hk with _ hk
    exact ht hk

theorem KKept.typed {t : TypeId} {cs : Array Value} {fr : Nat × Nat} (hK : KKept g W W') (hg : W.heap[g]? = some (.cells cs t fr)) (hne : t ≠ e) (h77 : e ≠ 77) : Typed e W W' := fun k cs' fr' hk =>
  hK.block k (Array.getElem?_eq_some_iff.1 hk).1 (fun e1 => by subst e1; rw [hg] at hk; injection hk with hk; injection hk with _ hk; exact hne hk) (.inr fun cs2 fr2 e2 => by rw [hk] at e2; injection e2 with e2; injection e2 with _ e2; exact h77 e2)

end

/-- A call of a Go function, by its contract, as a step of a region that draws. -/
theorem step_call {P : Program} {ops : Array Oper} {o : Oper} {a : Act} {w : World} {K : Act → World → Prop} {Q : Exit → Act → World → Prop} {E : Prop} (hgd : o.guard = none) (f : FuncId) (args : Array Value)
    (hrun : (execOp a.eval o).run P w = .ok (.enter f args) w) {R : Ending → World → Prop} (hc : Calls P f args w R) (h : ∀ e w', R e w' → ∃ v, e = .returned v ∧ K (a.put o.dst v) w') :
    if Region.wanted o (yielded ops a.tmps) = true then Oper.wp P o a w K Q else E := by
  have hw : Region.wanted o (yielded ops a.tmps) = true := by simp [Region.wanted, hgd]
  rw [if_pos hw]
  unfold Oper.wp
  rw [hrun, Oper.upon_enter]
  refine hc.mono fun e w' hh => ?_
  obtain ⟨v, rfl, hK⟩ := h e w' hh
  exact hK

/-- A section's cells. -/
def SecOk (B : Nat) (W : World) (x : List Value) : Prop :=
  ∃ (pv nv : Value) (p n : Nat) (what from_ m : Int) (cut : Bool), x = [pv, .int .i64 what, nv, .bool cut, .int .i64 from_, .int .i64 m] ∧ p ≤ 11 ∧ n ≤ 21 ∧ Rowed B 3 1 OneInt pv p W ∧ Rowed B 9 1 (OneStr 2000) nv n W

/-- An item's cells. -/
def ItemOk (B : Nat) (W : World) (x : List Value) : Prop :=
  ∃ (kind : Int) (peek : Bool) (sec : List Value), x = .int .i64 kind :: .bool peek :: sec ∧ SecOk B W sec

/-- A command's cells. -/
def CmdOk (B : Nat) (W : World) (x : List Value) : Prop :=
  ∃ (tag box dest body : ByteArray) (op mode flags date num : Int) (uid quiet : Bool) (sv iv fv kv : Value) (s i f k : Nat),
    x = [.string tag, .int .i64 op, .bool uid, .string box, .string dest, sv, .int .i64 mode, .bool quiet, .int .i64 flags, .int .i64 date, .int .i64 num, .string body, iv, fv, kv] ∧
    s ≤ 2001 ∧ i ≤ 100000 ∧ f ≤ 100 ∧ k ≤ 60 ∧
    Rowed B 64 2 TwoInts sv s W ∧ Rowed B 3 1 OneInt iv i W ∧ Rowed B 59 8 (ItemOk B W) fv f W ∧ Rowed B 77 7 (KeyOk B W) kv k W

theorem SecOk.typed {B : Nat} {W W' : World} {x : List Value} (h : SecOk B W x) (h3 : Typed 3 W W') (h9 : Typed 9 W W') : SecOk B W' x := by
  obtain ⟨pv, nv, p, n, what, fr, m, cut, rfl, hp, hn, hP, hN⟩ := h
  exact ⟨pv, nv, p, n, what, fr, m, cut, rfl, hp, hn, hP.typed h3, hN.typed h9⟩

theorem ItemOk.typed {B : Nat} {W W' : World} {x : List Value} (h : ItemOk B W x) (h3 : Typed 3 W W') (h9 : Typed 9 W W') : ItemOk B W' x := by
  obtain ⟨kind, peek, sec, rfl, hS⟩ := h
  exact ⟨kind, peek, sec, rfl, hS.typed h3 h9⟩

theorem KeyOk.typed {B : Nat} {W W' : World} {x : List Value} (h : KeyOk B W x) (h64 : Typed 64 W W') : KeyOk B W' x := by
  obtain ⟨op, nm, tx, n, sv, a, b, m, rfl, hm, hR⟩ := h
  exact ⟨op, nm, tx, n, sv, a, b, m, rfl, hm, hR.typed h64⟩

theorem Rowed.items {B : Nat} {W W' : World} {v : Value} {n : Nat} (h : Rowed B 59 8 (ItemOk B W) v n W) (h3 : Typed 3 W W') (h9 : Typed 9 W W') (h59 : Typed 59 W W') : Rowed B 59 8 (ItemOk B W') v n W' :=
  (h.mono fun _ _ hx => hx.typed h3 h9).typed h59

theorem Rowed.keys {B : Nat} {W W' : World} {v : Value} {n : Nat} (h : Rowed B 77 7 (KeyOk B W) v n W) (h64 : Typed 64 W W') (h77 : Typed 77 W W') : Rowed B 77 7 (KeyOk B W') v n W' :=
  (h.mono fun _ _ hx => hx.typed h64).typed h77

/-- A command stands while nothing of its rows changes. -/
theorem CmdOk.typed {B : Nat} {W W' : World} {x : List Value} (h : CmdOk B W x) (h3 : Typed 3 W W') (h9 : Typed 9 W W') (h59 : Typed 59 W W') (h64 : Typed 64 W W') (h77 : Typed 77 W W') : CmdOk B W' x := by
  obtain ⟨tag, box, dest, body, op, mode, flags, date, num, uid, quiet, sv, iv, fv, kv, s, i, f, k, rfl, hs, hi, hf, hk, hS, hI, hF, hK⟩ := h
  exact ⟨tag, box, dest, body, op, mode, flags, date, num, uid, quiet, sv, iv, fv, kv, s, i, f, k, rfl, hs, hi, hf, hk, hS.typed h64, hI.typed h3, hF.items h3 h9 h59, hK.keys h64 h77⟩

theorem CmdOk.below {B : Nat} {W W' : World} {x : List Value} (h : CmdOk B W x) (hb : Below W.heap.size W W') : CmdOk B W' x :=
  h.typed (Below.typed hb) (Below.typed hb) (Below.typed hb) (Below.typed hb) (Below.typed hb)

end Go.Proofs.YtjamgkcmpcnfpaaGreatDoor

namespace Go.Proofs.YtjamgkcmpcnfpaaGreatDoor
open Go.RowKit

/-- What is asked of a mailbox' name. -/
structure BoxOk (s : ByteArray) : Prop where
  name : NameOk s
  ne : s.data.toList ≠ []
  atom : allB atomB s.data.toList = true
  quot : allB qB s.data.toList = true

def boxCl (s : ByteArray) : ByteArray := ⟨(cleanL s.data.toList).toArray⟩

theorem stays_true (B : Nat) : Stays B (fun _ _ => True) := fun _ _ _ _ _ => trivial

/-- Parse, at a line of one part. -/
theorem parse_one (b : Nat) (p0 : ByteArray) (w : World) (hs : p0.size ≤ 2000) (hc : w.cell? ⟨b, 0, none⟩ = some (.string p0))
    (C : Array Value → Prop) (hC : ∀ cs, C cs → cs.size = 15 ∧ cs.all (·.oneCell') = true) (R : Array Value → World → Prop) (hS : Stays (w.heap.size + 4) R)
    (hG : Gives p0 (.slice (some ⟨b, 0, none⟩) 0 0) w C R) :
    Calls Tryz.prog 10 #[.slice (some ⟨b, 0, none⟩) 1 1] w fun e w' => ∃ cs, e = .returned (.tuple #[.agg cs, .int .i64 0]) ∧ C cs ∧ Below w.heap.size w w' ∧ R cs w' := by
  refine Parse_ok b 0 1 1 [p0] p0 w rfl (by omega) rfl (Nat.le_refl _) (by omega) (fun j hj => ?_) (fun j hj => ?_) rfl C hC R hS hG
  · obtain rfl : j = 0 := by omega
    exact hc
  · obtain rfl : j = 0 := by omega
    exact hs

theorem parse_atom (B b : Nat) (p0 s : ByteArray) (tag nm : List UInt8) (op : Int) (w : World) (hE : Env B w) (hT : TagOk tag) (hO : OpOk nm op) (hop : op = 5 ∨ op = 7 ∨ op = 8 ∨ op = 10) (hB : BoxOk s)
    (hp : p0.data.toList = tag ++ 32 :: (nm ++ 32 :: s.data.toList)) (hs : p0.size ≤ 2000) (hc : w.cell? ⟨b, 0, none⟩ = some (.string p0)) :
    Calls Tryz.prog 10 #[.slice (some ⟨b, 0, none⟩) 1 1] w fun e w' => e = .returned (.tuple #[.agg (cmdC tag op (boxCl s) (.slice none 0 0)), .int .i64 0]) ∧ Below w.heap.size w w' := by
  have h := parse_one b p0 w hs hc _ (by rintro cs rfl; exact ⟨rfl, by simp [cmdC, Value.oneCell']⟩) _ (stays_true _)
    (gives_box B p0 tag nm s.data.toList op (boxCl s) _ w hE hp hs hT hO hop (fun g w1 hg hA hb => by
      exact box_atom B g s _ 0 _ w1 (hE.step (hb.mono hE.le)) (Nat.le_trans hE.le hg) hA hB.name hB.ne hB.atom))
  refine h.mono ?_
  rintro e w' ⟨cs, rfl, rfl, hb, _⟩
  exact ⟨rfl, hb⟩

theorem parse_quoted (B b : Nat) (p0 s : ByteArray) (tag nm : List UInt8) (op : Int) (w : World) (hE : Env B w) (hT : TagOk tag) (hO : OpOk nm op) (hop : op = 5 ∨ op = 7 ∨ op = 8 ∨ op = 10) (hB : BoxOk s)
    (hp : p0.data.toList = tag ++ 32 :: (nm ++ 32 :: (34 :: (s.data.toList ++ [34])))) (hs : p0.size ≤ 2000) (hc : w.cell? ⟨b, 0, none⟩ = some (.string p0)) :
    Calls Tryz.prog 10 #[.slice (some ⟨b, 0, none⟩) 1 1] w fun e w' => e = .returned (.tuple #[.agg (cmdC tag op (boxCl s) (.slice none 0 0)), .int .i64 0]) ∧ Below w.heap.size w w' := by
  have h := parse_one b p0 w hs hc _ (by rintro cs rfl; exact ⟨rfl, by simp [cmdC, Value.oneCell']⟩) _ (stays_true _)
    (gives_box B p0 tag nm (34 :: (s.data.toList ++ [34])) op (boxCl s) _ w hE hp hs hT hO hop (fun g w1 hg hA hb => by
      exact box_quoted B g s _ _ 0 _ w1 (hE.step (hb.mono hE.le)) (Nat.le_trans hE.le hg) hA (by simp) hB.name hB.quot))
  refine h.mono ?_
  rintro e w' ⟨cs, rfl, rfl, hb, _⟩
  exact ⟨rfl, hb⟩

theorem parse_literal (B b : Nat) (p0 s : ByteArray) (tag nm : List UInt8) (op : Int) (w : World) (hE : Env B w) (hT : TagOk tag) (hO : OpOk nm op) (hop : op = 5 ∨ op = 7 ∨ op = 8 ∨ op = 10) (hB : BoxOk s)
    (hp : p0.data.toList = tag ++ 32 :: (nm ++ 32 :: [])) (hs : p0.size ≤ 2000) (hc : w.cell? ⟨b, 0, none⟩ = some (.string p0)) (hc1 : w.cell? ⟨b, 1, none⟩ = some (.string s)) (hc2 : w.cell? ⟨b, 2, none⟩ = some (.string ⟨#[]⟩)) :
    Calls Tryz.prog 10 #[.slice (some ⟨b, 0, none⟩) 3 3] w fun e w' => e = .returned (.tuple #[.agg (cmdC tag op (boxCl s) (.slice none 0 0)), .int .i64 0]) ∧ Below w.heap.size w w' := by
  have hlt := World.block_lt_of_cell? _ _ hc
  simp only at hlt
  have h40 := hB.name.formed.size
  have hj3 : ∀ j, j < 3 → j = 0 ∨ j = 1 ∨ j = 2 := by omega
  have h := Parse_ok b 0 3 3 [p0, s, ⟨#[]⟩] p0 w rfl (by omega) rfl (Nat.le_refl _) (by omega)
    (by intro j hj
        rcases hj3 j hj with rfl | rfl | rfl
        · exact hc
        · exact hc1
        · exact hc2)
    (by intro j hj
        rcases hj3 j hj with rfl | rfl | rfl
        · exact hs
        · show s.size ≤ 2000; omega
        · exact Nat.zero_le _) rfl _ (by rintro cs rfl; exact ⟨rfl, by simp [cmdC, Value.oneCell']⟩) _ (stays_true _)
    (gives_box B p0 tag nm [] op (boxCl s) _ w hE hp hs hT hO hop (fun g w1 hg hA hb => by
      rw [if_neg (by omega)] at hA
      exact box_literal B g s _ b 1 2 _ w1 (hE.step (hb.mono hE.le)) (Nat.le_trans hE.le hg) hA rfl (Nat.le_refl _) (by omega) ((hb.cell (p := ⟨b, 1, none⟩) hlt).trans hc1) ((hb.cell (p := ⟨b, 2, none⟩) hlt).trans hc2) (by omega) hB.name))
  refine h.mono ?_
  rintro e w' ⟨cs, rfl, rfl, hb, _⟩
  exact ⟨rfl, hb⟩

theorem stays_owns (B e size n : Nat) (xs : List Value) (tag : List UInt8) (cl : ByteArray) : Stays B (fun cs W => ∃ v, cs = cmdC tag 22 cl v ∧ W.ownsRow B e size v n xs) := by
  rintro cs W W' ⟨v, rfl, ho⟩ hk
  exact ⟨v, rfl, ownsRow_same ho (fun k _ _ _ hB _ => hk k hB)⟩

theorem parse_copy (B b : Nat) (p0 s : ByteArray) (tag nm a : List UInt8) (rs : List (Nat × Nat)) (w : World) (hE : Env B w) (hT : TagOk tag) (hO : OpOk nm 22) (hB : BoxOk s)
    (hS : SetOk a rs) (ha : a ≠ []) (haa : allB (atomOr [42]) a = true)
    (hp : p0.data.toList = tag ++ 32 :: (nm ++ 32 :: (a ++ 32 :: s.data.toList))) (hs : p0.size ≤ 2000) (hc : w.cell? ⟨b, 0, none⟩ = some (.string p0)) :
    Calls Tryz.prog 10 #[.slice (some ⟨b, 0, none⟩) 1 1] w fun e w' => ∃ v, e = .returned (.tuple #[.agg (cmdC tag 22 (boxCl s) v), .int .i64 0]) ∧ Below w.heap.size w w' ∧ w'.ownsRow (w.heap.size + 4) 64 2 v rs.length (rcells rs) := by
  obtain ⟨m, hm⟩ := hE.m
  have hra : (⟨(a ++ 32 :: s.data.toList).toArray⟩ : ByteArray).size ≤ 9223372036854775807 := by rw [size_bytes, hp] at hs; rw [size_bytes]; simp at hs ⊢; omega
  have h := parse_one b p0 w hs hc _ (by rintro cs ⟨A, n, c, rfl⟩; exact ⟨rfl, by simp [cmdC, Value.oneCell']⟩) _ (stays_owns (w.heap.size + 4) 64 2 _ _ tag (boxCl s))
    (gives_copy B p0 tag nm (a ++ 32 :: s.data.toList) s.data.toList rs (boxCl s) _ w hE hp hs hT hO (fun g w1 hg hA hb => by
      exact set_any g _ a (32 :: s.data.toList) rs _ _ m w1 hA (by simp) hra ha haa rfl hS ((hb.cell (p := ⟨4, 0, none⟩) (by have := hE.four; have := hE.le; show 4 < _; omega)).trans hm) (by have := hE.four; have := hE.le; omega))
      (fun g w1 hg hA hb => by
      exact box_atom B g s _ 0 _ w1 (hE.step (hb.mono hE.le)) (Nat.le_trans hE.le hg) hA hB.name hB.ne hB.atom))
  refine h.mono ?_
  rintro e w' ⟨cs, rfl, _, hb, v, rfl, ho⟩
  exact ⟨v, rfl, hb, ho⟩

end Go.Proofs.YtjamgkcmpcnfpaaGreatDoor

namespace Go.Proofs.YtjamgkcmpcnfpaaGreatDoor
open Go.RowKit

set_option maxHeartbeats 1000000 in
theorem Same09_nil (w : World) : Calls Tryz.prog 16 #[.slice none 0 0, .slice none 0 0] w fun e w' => e = .returned (.bool true) ∧ w = w' := by
  go_enter Tryz.func16, Tryz.ntmps16
  go_wp2_with fail
  go_loopw [5] (fun i wr => i = .int .i64 0 ∧ wr = w) (fun i _ => 0)
  case atStart => exact ⟨rfl, rfl⟩
  case round =>
    obtain ⟨rfl, rfl⟩ := hrel
    go_wp2_with fail
    go_ret
    exact ⟨rfl, rfl⟩

set_option maxHeartbeats 1000000 in
theorem Ints_nil (w : World) : Calls Tryz.prog 25 #[.slice none 0 0, .slice none 0 0] w fun e w' => e = .returned (.bool true) ∧ w = w' := by
  go_enter Tryz.func25, Tryz.ntmps25
  go_wp2_with fail
  go_loopw [5] (fun i wr => i = .int .i64 0 ∧ wr = w) (fun i _ => 0)
  case atStart => exact ⟨rfl, rfl⟩
  case round =>
    obtain ⟨rfl, rfl⟩ := hrel
    go_wp2_with fail
    go_ret
    exact ⟨rfl, rfl⟩

set_option maxHeartbeats 1000000 in
theorem Same22_nil (w : World) : Calls Tryz.prog 26 #[.slice none 0 0, .slice none 0 0] w fun e w' => e = .returned (.bool true) ∧ w = w' := by
  go_enter Tryz.func26, Tryz.ntmps26
  go_wp2_with fail
  go_loopw [5] (fun i wr => i = .int .i64 0 ∧ wr = w) (fun i _ => 0)
  case atStart => exact ⟨rfl, rfl⟩
  case round =>
    obtain ⟨rfl, rfl⟩ := hrel
    go_wp2_with fail
    go_ret
    exact ⟨rfl, rfl⟩

set_option maxHeartbeats 8000000 in
set_option maxRecDepth 100000 in
theorem Same24_plain (tag : List UInt8) (op : Int) (cl : ByteArray) (w : World) :
    Calls Tryz.prog 11 #[.agg (cmdC tag op cl (.slice none 0 0)), .agg (cmdC tag op cl (.slice none 0 0))] w fun e w' => e = .returned (.bool true) ∧ Below w.heap.size w w' := by
  simp only [cmdC]
  generalize (⟨tag.toArray⟩ : ByteArray) = tg
  go_enter Tryz.func11, Tryz.ntmps11
  go_wp2_with (first
    | (go_at_call 16; refine (Same09_nil _).mono ?_; rintro e w' ⟨rfl, rfl⟩)
    | (go_at_call 25; refine (Ints_nil _).mono ?_; rintro e w' ⟨rfl, rfl⟩)
    | (go_at_call 26; refine (Same22_nil _).mono ?_; rintro e w' ⟨rfl, rfl⟩))
  go_loopw [5] (fun i wr => i = .int .i64 0 ∧ wr = _) (fun i _ => 0)
  case atStart => exact ⟨rfl, rfl⟩
  case round =>
    obtain ⟨rfl, rfl⟩ := hrel
    go_wp2_with fail
    go_ret
    exact ⟨rfl, ((Below.refl _ w).alloc (Nat.le_refl _) _).alloc (by simp) _⟩

end Go.Proofs.YtjamgkcmpcnfpaaGreatDoor

namespace Go.Proofs.YtjamgkcmpcnfpaaGreatDoor
open Go.RowKit

section
variable {Pg : Program} {d : Nat} {xs ys : Array Value} {f : Field} {fs : List Field} {a b : Value} {r s : Bool} {w : World}
theorem fld_last (hn : (f.name == "_") = false) (ha : (part f.type xs f.offset).run Pg w = .ok a w) (hb : (part f.type ys f.offset).run Pg w = .ok b w) (he : (Op.equalIn d f.type a b).run Pg w = .ok r w) : (Op.eqFields d xs ys [f]).run Pg w = .ok r w := by
  have hn' : f.name ≠ "_" := by simpa using hn
  simp only [Op.eqFields, if_pos hn', Sem.run_bind, ha, hb, he, Result.andThen_ok]
  cases r <;> simp
theorem fld_cons (hn : (f.name == "_") = false) (ha : (part f.type xs f.offset).run Pg w = .ok a w) (hb : (part f.type ys f.offset).run Pg w = .ok b w) (he : (Op.equalIn d f.type a b).run Pg w = .ok r w) (hr : (Op.eqFields d xs ys fs).run Pg w = .ok s w) : (Op.eqFields d xs ys (f :: fs)).run Pg w = .ok (r && s) w := by
  have hn' : f.name ≠ "_" := by simpa using hn
  rw [Op.eqFields]
  simp only [if_pos hn', Sem.run_bind, ha, hb, he, Result.andThen_ok]
  cases r
  · simp
  · simpa using hr
theorem agg_eq {t : TypeId} {fs : Array Field} (hu : Pg.underlying t = some (.struct fs)) (hp : Pg.stoodInHeld t = false) (h : (Op.eqFields d xs ys fs.toList).run Pg w = .ok r w) : (Op.equalIn (d + 1) t (.agg xs) (.agg ys)).run Pg w = .ok r w := by
  have hf : Pg.fieldsOf t = fs := by simp [Program.fieldsOf, hu]
  rw [run_equalIn_struct (P := Pg) w d t xs ys (by rw [hf]; exact hu) hp, hf]
  exact h
end

theorem range_eq (d : Nat) (w : World) (x0 y0 : Int) (x1 y1 : Int) :
    (Op.equalIn (d + 2) 64 (.agg #[.int .i64 x0, .int .i64 x1]) (.agg #[.int .i64 y0, .int .i64 y1])).run Tryz.prog w = .ok (x0 == y0 && (x1 == y1)) w := by
  refine agg_eq Tryz.underlying64 (by kernel_rfl) ?_
  refine fld_cons (by rfl) (by go_simp; rfl) (by go_simp; rfl) (by go_simp) ?_
  exact fld_last (by rfl) (by go_simp; rfl) (by go_simp; rfl) (by go_simp)

/-- A row of ranges lies in memory. -/
def RowAt (w : World) (b o n : Nat) (rs : List (Nat × Nat)) : Prop :=
  ∀ i, i < n → w.cell? ⟨b, o + i * 2, none⟩ = some (.int .i64 (rs.getD i (0, 0)).1) ∧ w.cell? ⟨b, o + i * 2 + 1, none⟩ = some (.int .i64 (rs.getD i (0, 0)).2)

set_option maxHeartbeats 2000000 in
theorem Same09_eq (b1 o1 b2 o2 n c1 c2 : Nat) (rs : List (Nat × Nat)) (w : World) (hmax : n ≤ 60) (h1 : RowAt w b1 o1 n rs) (h2 : RowAt w b2 o2 n rs) :
    Calls Tryz.prog 16 #[.slice (some ⟨b1, o1, none⟩) n c1, .slice (some ⟨b2, o2, none⟩) n c2] w fun e w' => e = .returned (.bool true) ∧ Below w.heap.size w w' := by
  have H1 := Lib.hid h1; clear h1
  have H2 := Lib.hid h2; clear h2
  have hu64 := Tryz.underlying64
  have heq := range_eq
  go_enter Tryz.func16, Tryz.ntmps16
  go_wp2_with fail
  go_loopw [5] (fun i wr => ∃ k : Nat, k ≤ n ∧ i = .int .i64 k ∧ ∃ m, wr = w.drewN m) (fun i _ => n - (intOf i).toNat)
  case atStart => exact ⟨0, by omega, rfl, 0, rfl⟩
  case round =>
    obtain ⟨k, hk, rfl, m, rfl⟩ := hrel
    by_cases hlt : k < n
    · obtain ⟨p1, p2⟩ := H1.out k hlt
      obtain ⟨q1, q2⟩ := H2.out k hlt
      generalize (rs.getD k (0, 0)).1 = x at *
      generalize (rs.getD k (0, 0)).2 = y at *
      go_wp2_with fail
      go_quiet (fail)
      go_wp2_with fail
      go_roundw
      case rel => exact ⟨k + 1, by omega, by go_num, _, rfl⟩
      case measure => simp [intOf]; omega
    · go_wp2_with fail
      go_ret
      exact ⟨rfl, rfl, rfl, rfl, Nat.le_refl _, fun _ _ => rfl⟩

end Go.Proofs.YtjamgkcmpcnfpaaGreatDoor
