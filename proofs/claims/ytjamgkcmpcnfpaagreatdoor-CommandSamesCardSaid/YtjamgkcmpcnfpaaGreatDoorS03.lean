/-
  uids.number, at a star and at a number.
  'may' and 'eat', said of lists of bytes.
  uids.Parse, at texts of ranges that are taken.
  The parser's 'set'.
-/
import Derived.Test.YtjamgkcmpcnfpaaGreatDoorS02
import Derived.Deep.QuietTactic
import Derived.BigQuiet
import Derived.Maps.AppendAt
set_option linter.unusedVariables false
set_option linter.unusedSimpArgs false

namespace Go.Proofs.YtjamgkcmpcnfpaaGreatDoor
open Go.RowKit

set_option maxHeartbeats 1000000 in
theorem number_star (w : World) :
    Calls Tryz.prog 140 #[.string ⟨#[42]⟩] w fun e w' => e = .returned (.tuple #[.int .i64 0, .bool true]) ∧ Below w.heap.size w w' := by
  go_enter Tryz.func140, Tryz.ntmps140
  go_wp2_with fail
  go_ret2
  exact ⟨rfl, Below.refl _ _⟩

set_option maxHeartbeats 2000000 in
set_option maxRecDepth 100000 in
theorem number_dec (s : ByteArray) (u : Nat) (w : World) (hs : s.size ≤ 2000) (hu : Lib.parseUintB 32 s.data.toList = .ok u) (hpos : 0 < u) (hlt : u < 4294967296) (hne : 0 < s.size)
    (h0 : byteAt s 0 ≠ 48) (h1 : byteAt s 0 ≠ 43) (hstar : s.toList ≠ [42]) :
    Calls Tryz.prog 140 #[.string s] w fun e w' => e = .returned (.tuple #[.int .i64 u, .bool true]) ∧ Below w.heap.size w w' := by
  have hP := Tryz.strconv_ParseUint_10_at32_ok s (by omega) u hu w
  have HP := Lib.hid hP; clear hP
  have hb := byteAt_of s 0 hne
  rw [hb] at h0 h1
  have t0 : (((s[0]'hne).toNat : Int) != 48) = true := by simpa [bne_iff_ne] using h0
  have t1 : (((s[0]'hne).toNat : Int) != 43) = true := by simpa [bne_iff_ne] using h1
  have t2 : decide ((0 : Int) < (u : Int)) = true := by simp; omega
  have t3 : (s.toList == [42]) = false := by simpa using hstar
  clear hu h0 h1 hb hstar
  go_enter Tryz.func140, Tryz.ntmps140
  go_wp2_with fail
  refine HP.out.mono ?_
  rintro e w1 ⟨rfl, hw⟩
  have hB : Below w.heap.size w w1 := by
    rcases hw with rfl | rfl
    · exact Below.refl _ _
    · exact Lib.bytesWorld_below _ _ _
  clear hw
  go_wp2_with fail
  have hcv : IntKind.i64.wrap (u : Int) = u := by rw [IntKind.wrap_i64]; omega
  go_quiet (fail)
  go_wp2_with fail
  go_ret2
  exact ⟨rfl, below_drewN hB _⟩

end Go.Proofs.YtjamgkcmpcnfpaaGreatDoor

namespace Go.Proofs.YtjamgkcmpcnfpaaGreatDoor
open Go.RowKit

theorem hasPrefix_append (p r : List UInt8) : Lib.hasPrefix (p ++ r) p = true := by
  unfold Lib.hasPrefix
  rw [List.isPrefixOf_iff_prefix]
  exact ⟨r, rfl⟩

theorem trimPrefix_append (p r : List UInt8) : Lib.trimPrefix (p ++ r) p = r := by
  unfold Lib.trimPrefix
  rw [if_pos (hasPrefix_append p r)]
  simp

theorem trimPrefix_none (l p : List UInt8) (h : Lib.hasPrefix l p = false) : Lib.trimPrefix l p = l := by
  unfold Lib.trimPrefix
  rw [h]
  simp

theorem ext_list (t : ByteArray) (l : List UInt8) (h : t.data.toList = l) : (⟨l.toArray⟩ : ByteArray) = t := ext_bytes (by simpa using h.symm)

theorem may_has (g : Nat) (t p : ByteArray) (r : List UInt8) (rv kv : Value) (w : World) (hA : At g w t rv kv) (ht : t.data.toList = p.data.toList ++ r) :
    Calls Tryz.prog 75 #[PP g, .string p] w fun e w' => e = .returned (.bool true) ∧ At g w' ⟨r.toArray⟩ rv kv ∧ Kept g w w' := by
  have h := may_any g t p rv kv w hA
  rw [ht, hasPrefix_append, trimPrefix_append] at h
  exact h

theorem may_not (g : Nat) (t p : ByteArray) (rv kv : Value) (w : World) (hA : At g w t rv kv) (ht : Lib.hasPrefix t.data.toList p.data.toList = false) :
    Calls Tryz.prog 75 #[PP g, .string p] w fun e w' => e = .returned (.bool false) ∧ At g w' t rv kv ∧ Kept g w w' := by
  have h := may_any g t p rv kv w hA
  rw [trimPrefix_none _ _ ht, ht, ext_list t _ rfl] at h
  exact h

theorem eat_has (g : Nat) (t p : ByteArray) (r : List UInt8) (rv kv : Value) (w : World) (hA : At g w t rv kv) (ht : t.data.toList = p.data.toList ++ r) :
    Calls Tryz.prog 50 #[PP g, .string p] w fun e w' => e = .returned (.tuple #[]) ∧ At g w' ⟨r.toArray⟩ rv kv ∧ Kept g w w' := by
  have h := eat_yes g t p rv kv w hA (by rw [ht]; exact hasPrefix_append _ _)
  rw [ht, trimPrefix_append] at h
  exact h

end Go.Proofs.YtjamgkcmpcnfpaaGreatDoor

namespace Go.Proofs.YtjamgkcmpcnfpaaGreatDoor
open Go.RowKit

attribute [local go_sem] Oper.semAt_some

/-- A text of a number, or of the star. -/
def NumOk (l : List UInt8) (u : Nat) : Prop :=
  (l = [42] ∧ u = 0) ∨ (l ≠ [42] ∧ Lib.parseUintB 32 l = .ok u ∧ 0 < u ∧ u < 4294967296 ∧ l.length ≤ 2000 ∧ l ≠ [] ∧ l.head? ≠ some 48 ∧ l.head? ≠ some 43)

theorem number_ok (l : List UInt8) (u : Nat) (w : World) (h : NumOk l u) :
    Calls Tryz.prog 140 #[.string ⟨l.toArray⟩] w fun e w' => e = .returned (.tuple #[.int .i64 u, .bool true]) ∧ Below w.heap.size w w' := by
  rcases h with ⟨rfl, rfl⟩ | ⟨h1, h2, h3, h4, h5, h6, h7, h8⟩
  · exact number_star w
  · obtain ⟨c, r, rfl⟩ : ∃ c r, l = c :: r := by cases l with | nil => exact absurd rfl h6 | cons c r => exact ⟨c, r, rfl⟩
    refine number_dec ⟨(c :: r).toArray⟩ u w (by rw [size_bytes]; simpa using h5) (by simpa using h2) h3 h4 (by rw [size_bytes]; simp) ?_ ?_ (by rw [ByteArray.toList_eq]; simpa using h1)
    · intro e; apply h7; rw [byteAt_list _ (c :: r) (by simp)] at e; simp at e ⊢; exact UInt8.toNat_inj.1 (by simpa using Int.ofNat_inj.1 e)
    · intro e; apply h8; rw [byteAt_list _ (c :: r) (by simp)] at e; simp at e ⊢; exact UInt8.toNat_inj.1 (by simpa using Int.ofNat_inj.1 e)

/-- A part: one number, or two unlike ones with a colon between. -/
def PartOk (x : List UInt8) (a b : Nat) : Prop :=
  ∃ f t two, Lib.cut x [58] = (f, t, two) ∧ NumOk f a ∧ NumOk (if two = true then t else f) b ∧ (two = true → a ≠ b) ∧ x.length ≤ 2000

/-- The cells of ranges. -/
def rcells : List (Nat × Nat) → List Value
  | [] => []
  | (a, b) :: r => .int .i64 a :: .int .i64 b :: rcells r

theorem rcells_length (l : List (Nat × Nat)) : (rcells l).length = l.length * 2 := by
  induction l with
  | nil => rfl
  | cons x r ih => obtain ⟨a, b⟩ := x; simp [rcells, ih]; omega

theorem rcells_snoc (l : List (Nat × Nat)) (a b : Nat) : rcells (l ++ [(a, b)]) = rcells l ++ [.int .i64 a, .int .i64 b] := by
  induction l with
  | nil => rfl
  | cons x r ih => obtain ⟨c, d⟩ := x; simp [rcells, ih]

theorem info64 : (Tryz.prog.info? 64).map (fun i => (i.zero, i.size, i.bytes)) = some (some (.agg #[.int .i64 0, .int .i64 0]), 2, 16) := by kernel_rfl

/-- Between two rounds of uids.Parse: what was read lies in a row of the call's own; the two results' variables are as they were made. -/
def UI (w0 : World) (H : Nat) (rs : List (Nat × Nat)) (pre : List (List UInt8)) (X : World) : Prop :=
  (∃ v, X.heap[H + 2]? = some (.cells #[v] 26 (0, 0)) ∧ X.ownsRow (H + 6) 64 2 v pre.length (rcells (rs.take pre.length))) ∧ X.heap[H]? = some (.cells #[.slice none 0 0] 26 (0, 0)) ∧ X.heap[H + 1]? = some (.cells #[.int .i64 0] 32 (0, 0)) ∧
    Below H w0 X ∧ H + 6 ≤ X.heap.size

theorem ownsRow_same {w w1 : World} {base : Nat} {e : TypeId} {size n : Nat} {v : Value} {xs : List Value} (h : w.ownsRow base e size v n xs) (hm : ∀ k cs t fr, base ≤ k → w.heap[k]? = some (.cells cs t fr) → w1.heap[k]? = w.heap[k]?) : w1.ownsRow base e size v n xs := by
  obtain ⟨h1, h2⟩ := h
  refine ⟨h1, ?_⟩
  rcases h2 with h2 | ⟨g, cap, cur, rfl, hg, hh, r⟩
  · exact .inl h2
  · exact .inr ⟨g, cap, cur, rfl, hg, (hm g _ _ _ hg hh).trans hh, r⟩

theorem ownsRow_weaken {w : World} {base base' : Nat} {e : TypeId} {size n : Nat} {v : Value} {xs : List Value} (h : w.ownsRow base e size v n xs) (hb : base' ≤ base) : w.ownsRow base' e size v n xs := by
  obtain ⟨h1, h2⟩ := h
  refine ⟨h1, ?_⟩
  rcases h2 with h2 | ⟨g, cap, cur, rfl, hg, hh, r⟩
  · exact .inl h2
  · exact .inr ⟨g, cap, cur, rfl, by omega, hh, r⟩

theorem UI.own (w0 : World) (H : Nat) (rs : List (Nat × Nat)) (hH : H ≤ w0.heap.size) : OwnFrom (H + 6) (UI w0 H rs) := by
  rintro pre X X' row ⟨⟨v, hb, ho⟩, h1, h2, hB, hz⟩ hg hr
  have same : ∀ (k : Nat) (cs : Array Value) (t : TypeId) (fr : Nat × Nat), X.heap[k]? = some (Obj.cells cs t fr) → X'.heap[k]? = X.heap[k]? := fun k cs t fr hk => hg.block k (Array.getElem?_eq_some_iff.1 hk).1 (fun e => by
    obtain ⟨_, o, ho, hc⟩ := hr k e.symm
    rw [hk] at ho
    cases ho
    simp [Obj.isCells] at hc)
  exact ⟨⟨v, (same _ _ _ _ hb).trans hb, ownsRow_same ho (fun k cs t fr _ hk => same k cs t fr hk)⟩, (same _ _ _ _ h1).trans h1, (same _ _ _ _ h2).trans h2,
    hB.grown hg (Nat.le_trans hH hB.size) (fun k e => by have := (hr k e).1; omega), Nat.le_trans hz hg.size⟩

theorem UI.set {w0 : World} {H : Nat} {rs : List (Nat × Nat)} {pre : List (List UInt8)} {X : World} (h : UI w0 H rs pre X) (u : Value) : UI w0 H rs pre (X.setCell ⟨H + 3, 0, none⟩ u) := by
  obtain ⟨⟨v, hb, ho⟩, h1, h2, hB, hz⟩ := h
  have same : ∀ k, k ≠ H + 3 → (X.setCell ⟨H + 3, 0, none⟩ u).heap[k]? = X.heap[k]? := fun k hk => Below.heap_setCell _ _ _ _ hk
  exact ⟨⟨v, (same _ (by omega)).trans hb, ownsRow_same ho (fun k _ _ _ hk _ => same k (by omega))⟩, (same _ (by omega)).trans h1, (same _ (by omega)).trans h2,
    hB.setCell (p := ⟨H + 3, 0, none⟩) (by simp) _, by simpa [World.setCell] using hz⟩

/-- The world in which the range begins. -/
structure Six (w : World) (s : ByteArray) (W : World) : Prop where
  size : W.heap.size = w.heap.size + 6
  b0 : W.heap[w.heap.size]? = some (.cells #[.slice none 0 0] 26 (0, 0))
  b1 : W.heap[w.heap.size + 1]? = some (.cells #[.int .i64 0] 32 (0, 0))
  b2 : W.heap[w.heap.size + 2]? = some (.cells #[.slice none 0 0] 26 (0, 0))
  b3 : W.heap[w.heap.size + 3]? = some (.cells #[.string s] 9 (0, 0))
  b4 : W.heap[w.heap.size + 4]? = some (.cells #[.string ⟨#[44]⟩] 9 (0, 0))
  b5 : W.heap[w.heap.size + 5]? = some (.cells #[.int .i64 0] 3 (0, 0))
  below : Below w.heap.size w W

theorem heap_alloc_lt (w : World) (o : Obj) (k : Nat) (h : k < w.heap.size) : (w.alloc o).heap[k]? = w.heap[k]? := Below.heap_alloc _ _ _ h
theorem heap_alloc_at (w : World) (o : Obj) (k : Nat) (h : k = w.heap.size) : (w.alloc o).heap[k]? = some o := by subst h; exact World.alloc_heap_new w o

theorem six (w : World) (s : ByteArray) : Six w s ((((((w.alloc (.cells #[.slice none 0 0] 26)).alloc (.cells #[.int .i64 0] 32)).alloc (.cells #[.slice none 0 0] 26)).alloc (.cells #[.string s] 9)).alloc (.cells #[.string ⟨#[44]⟩] 9)).alloc (.cells #[.int .i64 0] 3)) := by
  refine ⟨by simp only [World.size_alloc], ?_, ?_, ?_, ?_, ?_, ?_, ?_⟩
  · rw [heap_alloc_lt _ _ _ (by simp only [World.size_alloc]; omega), heap_alloc_lt _ _ _ (by simp only [World.size_alloc]; omega), heap_alloc_lt _ _ _ (by simp only [World.size_alloc]; omega), heap_alloc_lt _ _ _ (by simp only [World.size_alloc]; omega), heap_alloc_lt _ _ _ (by simp only [World.size_alloc]; omega), heap_alloc_at _ _ _ (by simp only [World.size_alloc])]
  · rw [heap_alloc_lt _ _ _ (by simp only [World.size_alloc]; omega), heap_alloc_lt _ _ _ (by simp only [World.size_alloc]; omega), heap_alloc_lt _ _ _ (by simp only [World.size_alloc]; omega), heap_alloc_lt _ _ _ (by simp only [World.size_alloc]; omega), heap_alloc_at _ _ _ (by simp only [World.size_alloc])]
  · rw [heap_alloc_lt _ _ _ (by simp only [World.size_alloc]; omega), heap_alloc_lt _ _ _ (by simp only [World.size_alloc]; omega), heap_alloc_lt _ _ _ (by simp only [World.size_alloc]; omega), heap_alloc_at _ _ _ (by simp only [World.size_alloc])]
  · rw [heap_alloc_lt _ _ _ (by simp only [World.size_alloc]; omega), heap_alloc_lt _ _ _ (by simp only [World.size_alloc]; omega), heap_alloc_at _ _ _ (by simp only [World.size_alloc])]
  · rw [heap_alloc_lt _ _ _ (by simp only [World.size_alloc]; omega), heap_alloc_at _ _ _ (by simp only [World.size_alloc])]
  · rw [heap_alloc_at _ _ _ (by simp only [World.size_alloc])]
  · exact (((((((Below.refl _ w).alloc (by omega) _).alloc (by simp only [World.size_alloc]; omega) _).alloc (by simp only [World.size_alloc]; omega) _).alloc (by simp only [World.size_alloc]; omega) _).alloc (by simp only [World.size_alloc]; omega) _).alloc (by simp only [World.size_alloc]; omega) _)

theorem cell_of_block {W : World} {b : Nat} {v : Value} {t : TypeId} (h : W.heap[b]? = some (.cells #[v] t (0, 0))) : W.cell? ⟨b, 0, none⟩ = some v := by rw [Lib.cell_of_heap h]; rfl
theorem frozen_of_block {W : World} {b : Nat} {v : Value} {t : TypeId} (h : W.heap[b]? = some (.cells #[v] t (0, 0))) : W.frozen? ⟨b, 0, none⟩ = false := Lib.frozen_of_heap h 0

/-- What one round has done. -/
theorem uids_round {w X X3 X4 : World} {hW : Nat} {rs : List (Nat × Nat)} {pre : List (List UInt8)} {x : List UInt8} {v v4 : Value} {a b : Nat} (hWs : hW = w.heap.size + 6)
    (hz : w.heap.size + 6 ≤ X.heap.size) (hB : Below w.heap.size w X) (ho : X.ownsRow (w.heap.size + 6) 64 2 v pre.length (rcells (rs.take pre.length)))
    (hb : X.heap[w.heap.size + 2]? = some (.cells #[.slice none 0 0] 26 (0, 0)) ∨ ∃ u, X.heap[w.heap.size + 2]? = some (.cells #[u] 26 (0, 0)))
    (hb0 : X.heap[w.heap.size]? = some (.cells #[.slice none 0 0] 26 (0, 0))) (hb1 : X.heap[w.heap.size + 1]? = some (.cells #[.int .i64 0] 32 (0, 0)))
    (hBX : Below X.heap.size X X3) (hgr : (X3.alloc (.cells #[.int .i64 a, .int .i64 b] 64)).grownBy X4 v.ownBlock) (hb4 : X4.heap[w.heap.size + 2]? = some (.cells #[v] 26 (0, 0)))
    (ho4 : X4.ownsRow (w.heap.size + 6) 64 2 v4 (pre.length + 1) (rcells (rs.take pre.length) ++ [.int .i64 a, .int .i64 b]))
    (hk4 : ∀ k, k < X3.heap.size → some k ≠ v.ownBlock → X4.heap[k]? = X3.heap[k]?) (hvb : ∀ k, k < w.heap.size + 6 → some k ≠ v.ownBlock)
    (hrc : rcells (rs.take (pre.length + 1)) = rcells (rs.take pre.length) ++ [.int .i64 a, .int .i64 b]) :
    KeepsOthers X (X4.setCell ⟨w.heap.size + 2, 0, none⟩ v4) ∧ KeptTo hW (w.heap.size + 2) X (X4.setCell ⟨w.heap.size + 2, 0, none⟩ v4) ∧ UI w w.heap.size rs (pre ++ [x]) (X4.setCell ⟨w.heap.size + 2, 0, none⟩ v4) := by
  have hX4 : X3.heap.size ≤ X4.heap.size := by have := hgr.size; simp at this; omega
  have hset : ∀ k, k ≠ w.heap.size + 2 → (X4.setCell ⟨w.heap.size + 2, 0, none⟩ v4).heap[k]? = X4.heap[k]? := fun k hk => Below.heap_setCell _ _ _ _ hk
  have hss : (X4.setCell ⟨w.heap.size + 2, 0, none⟩ v4).heap.size = X4.heap.size := by simp [World.setCell]
  have hXX3 := hBX.size
  have htot : ∀ k, k < X.heap.size → k ≠ w.heap.size + 2 → some k ≠ v.ownBlock → (X4.setCell ⟨w.heap.size + 2, 0, none⟩ v4).heap[k]? = X.heap[k]? := fun k hk h2 hv =>
    (hset k h2).trans ((hk4 k (by omega) hv).trans (hBX.block k hk))
  have hne2 : ∀ k o, X.heap[k]? = some o → o.isCells = false → k ≠ w.heap.size + 2 := fun k o hk hc e => by
    subst e
    rcases hb with h | ⟨u, h⟩
    · rw [h] at hk; cases hk; simp [Obj.isCells] at hc
    · rw [h] at hk; cases hk; simp [Obj.isCells] at hc
  have hnev : ∀ k o, X.heap[k]? = some o → o.isCells = false → some k ≠ v.ownBlock := fun k o hk hc e => by
    rcases ho.2 with ⟨rfl, _⟩ | ⟨g, cap, cur, rfl, hg, hh, r⟩
    · simp [Value.ownBlock] at e
    · have : k = g := by simpa [Value.ownBlock] using e
      subst this
      rw [hh] at hk; cases hk; simp [Obj.isCells] at hc
  refine ⟨⟨by omega, fun k o hk hc => ?_⟩, fun k hk h2 => ?_, ?_⟩
  · have hlt := (Array.getElem?_eq_some_iff.1 hk).1
    exact (htot k hlt (hne2 k o hk hc) (hnev k o hk hc)).trans hk
  · exact htot k (by omega) h2 (hvb k (by omega))
  · refine ⟨⟨v4, ?_, ?_⟩, ?_, ?_, ?_, by omega⟩
    · rw [heap_setCell_same X4 _ 0 _ _ v4 hb4]; rfl
    · rw [List.length_append, List.length_singleton, hrc]
      exact ownsRow_same ho4 (fun k _ _ _ hk _ => hset k (by omega))
    · exact (htot _ (by omega) (by omega) (hvb _ (by omega))).trans hb0
    · exact (htot _ (by omega) (by omega) (hvb _ (by omega))).trans hb1
    · refine hB.trans ⟨?_, ?_, ?_, by omega, fun k hk => htot k (by omega) (by omega) (hvb k (by omega))⟩
      · exact hgr.os.trans hBX.os
      · exact hgr.tape.trans hBX.tape
      · exact hgr.output.trans hBX.output

set_option maxHeartbeats 4000000 in
set_option maxRecDepth 100000 in
theorem uidsParse_any (s : ByteArray) (parts : List (List UInt8)) (rs : List (Nat × Nat)) (m : Int) (w : World) (hs : s.data.toList = joinC 44 parts) (hsz : s.size ≤ 2000) (hne : parts ≠ []) (hno : ∀ x ∈ parts, (44 : UInt8) ∉ x)
    (hl : parts.length = rs.length) (h60 : rs.length ≤ 60) (hok : ∀ i (hi : i < parts.length), PartOk parts[i] (rs[i]'(by omega)).1 (rs[i]'(by omega)).2) (hM : w.cell? ⟨4, 0, none⟩ = some (.int .i64 m)) (hw4 : 4 < w.heap.size) :
    Calls Tryz.prog 107 #[.string s] w fun e w' => (∃ v, e = .returned (.tuple #[v, .int .i64 0]) ∧ w'.ownsRow w.heap.size 64 2 v rs.length (rcells rs)) ∧ Below w.heap.size w w' := by
  have hS := six w s
  have HS := Lib.hid hS; clear hS
  have Hs := Lib.hid hs; clear hs
  have Hno := Lib.hid hno; clear hno
  have Hok := Lib.hid hok; clear hok
  refine (callsIn_wide (n := 9)).1 ?_
  refine callsIn_of_wp_marks Tryz.func107 rfl trivial ?_ rfl
  simp only [Tryz.ntmps107, List.size_toArray, List.length_cons, List.length_nil, Nat.reduceAdd, Nat.reduceSub, Array.replicate_succ, Array.replicate_zero, List.push_toArray, List.append_toArray, List.nil_append, List.cons_append]
  gi_wp2_with fail
  refine ⟨trivial, ?_⟩
  refine (callsIn_wide.2 (SplitSeq_any _ _ _)).mono ?_
  rintro e w1 ⟨rfl, rfl⟩
  gi_wp2_with fail
  obtain ⟨W, hWd⟩ : ∃ W, ((((((w.alloc (.cells #[.slice none 0 0] 26)).alloc (.cells #[.int .i64 0] 32)).alloc (.cells #[.slice none 0 0] 26)).alloc (.cells #[.string s] 9)).alloc (.cells #[.string ⟨#[44]⟩] 9)).alloc (.cells #[.int .i64 0] 3)) = W := ⟨_, rfl⟩
  rw [hWd] at HS ⊢
  clear hWd
  have hWs := HS.out.size
  have HWs := Lib.hid hWs; clear hWs
  refine wpIn_range_cell (F := Fence.wide) (n := 9) (gf := 207) (lb := #[.pointer (some ⟨w.heap.size + 4, 0, none⟩), .pointer (some ⟨w.heap.size + 3, 0, none⟩), .pointer (some ⟨w.heap.size + 5, 0, none⟩)]) (enc := fun x : List UInt8 => .string ⟨x.toArray⟩) (parts := parts) (p := ⟨w.heap.size + 3, 0, none⟩) (gb := w.heap.size + 2)
    rfl (by decide) rfl trivial (enters_of Tryz.func207 (by kernel_rfl) rfl) (by rw [HWs.out]; simp) rfl ?hseq (UI w w.heap.size rs) ?hI (fun pre X u h => h.set u) ?h0 ?a1 ?hassign ?hbody ?hdone
  case hassign =>
    intro l x W K hK
    gi_wp2
    exact hK
  case hI => rw [HWs.out]; exact UI.own w w.heap.size rs (Nat.le_refl _)
  case h0 => exact ⟨⟨.slice none 0 0, HS.out.b2, World.ownsRow_nil _ _ _ _⟩, HS.out.b0, HS.out.b1, HS.out.below, by rw [HWs.out]; omega⟩
  case hseq =>
    intro l K X hB hKs hKz hY h0
    have hlt : ∀ j, j < 6 → w.heap.size + j < W.heap.size := fun j hj => by rw [HWs.out]; omega
    have e : s = ⟨(joinC 44 parts).toArray⟩ := (ext_list s _ Hs.out).symm
    have b3 := HS.out.b3
    rw [e] at b3
    have := splitSeq1_in 8 (by decide) l W.heap.size (w.heap.size + 2) (w.heap.size + 3) (w.heap.size + 4) (w.heap.size + 5) parts K X ⟨hlt 3 (by omega), hlt 4 (by omega), hlt 5 (by omega)⟩ ⟨by omega, by omega, by omega⟩ ⟨by omega, by omega⟩ hKs hY
      ((hB.cell (p := ⟨w.heap.size + 3, 0, none⟩) (hlt 3 (by omega))).trans (cell_of_block b3)) ((hB.frozen (p := ⟨w.heap.size + 3, 0, none⟩) (hlt 3 (by omega))).trans (frozen_of_block b3))
      ((hB.cell (p := ⟨w.heap.size + 4, 0, none⟩) (hlt 4 (by omega))).trans (cell_of_block HS.out.b4)) ((hB.cell (p := ⟨w.heap.size + 5, 0, none⟩) (hlt 5 (by omega))).trans (cell_of_block HS.out.b5))
      hne Hno.out (by rw [size_bytes, Hs.out] at hsz; exact hsz) h0
    simpa using this
  case hbody =>
    intro l pre x X hI hz hpre
    obtain ⟨⟨v, hb, ho⟩, hb0, hb1, hB, hz'⟩ := hI
    obtain ⟨rest, hrest⟩ := hpre
    have hi : pre.length < parts.length := by rw [← hrest]; simp
    have hpx : parts[pre.length] = x := by simp [← hrest]
    obtain ⟨f, t, two, hcut, hf, ht, htwo, hxl⟩ := Hok.out pre.length hi
    rw [hpx] at hcut hxl
    have hrl : pre.length < rs.length := by omega
    have hrc : rcells (rs.take (pre.length + 1)) = rcells (rs.take pre.length) ++ [.int .i64 rs[pre.length].1, .int .i64 rs[pre.length].2] := by
      rw [List.take_succ_eq_append_getElem hrl, ← rcells_snoc]
    generalize ha : rs[pre.length].1 = a at *
    generalize hbb : rs[pre.length].2 = b at *
    clear ha hbb hpx hrest
    have hMx := (hB.cell (p := ⟨4, 0, none⟩) hw4).trans hM
    have hC := Tryz.strings_Cut ⟨x.toArray⟩ ⟨#[58]⟩ m X (by rw [size_bytes]; simp; omega) hMx
    simp only [List.toList_toArray, hcut] at hC
    have HC := Lib.hid hC; clear hC
    have Hf := Lib.hid hf; clear hf
    have Ht := Lib.hid ht; clear ht
    have Hrc := Lib.hid hrc; clear hrc
    have Ho := Lib.hid ho; clear ho
    have Hb := Lib.hid hb; clear hb
    have Hb0 := Lib.hid hb0; clear hb0
    have Hb1 := Lib.hid hb1; clear hb1
    have Hl := Lib.hid hl; clear Hok hl
    clear hcut hMx hM
    have hab : two = true → ((a : Int) == (b : Int)) = false := fun e => by rw [beq_eq_false_iff_ne]; have := htwo e; omega
    clear htwo
    obtain ⟨i0, hinf, hz0, hz1, hz2⟩ := info_parts info64
    have hv : v.ownBlock ≠ some (w.heap.size + 2) := fun e => by have := (Ho.out.lt _ e).1; omega
    have hpl : pre.length + 1 ≤ 60 := by omega
    cases two with
    | false =>
      clear hab
      gi_wp2_with fail
      refine ⟨trivial, ?_⟩
      refine (CallsIn.inRound l (callsIn_wide.2 HC.out)).mono ?_
      rintro e X1 ⟨rfl, n1, rfl⟩
      gi_wp2_with fail
      refine ⟨trivial, ?_⟩
      refine (CallsIn.inRound l (callsIn_wide.2 (number_ok f a _ Hf.out))).mono ?_
      rintro e X2 ⟨rfl, hB2⟩
      gi_wp2_with fail
      refine ⟨trivial, ?_⟩
      refine (CallsIn.inRound l (callsIn_wide.2 (number_ok f b _ Ht.out))).mono ?_
      rintro e X3 ⟨rfl, hB3⟩
      have hBX : Below X.heap.size X X3 := (below_drewN (Below.refl _ X) n1).trans (hB2.trans (hB3.mono hB2.size))
      have ho3 : X3.ownsRow (w.heap.size + 6) 64 2 v pre.length (rcells (rs.take pre.length)) := ownsRow_same Ho.out (fun k cs t fr _ hk => hBX.block k (Array.getElem?_eq_some_iff.1 hk).1)
      have hb3 := Lib.hid ((hBX.block _ (by omega)).trans Hb.out)
      have c2 := cell_of_block hb3.out
      have hz3 : w.heap.size + 6 ≤ X3.heap.size := Nat.le_trans hz' hBX.size
      have HBX := Lib.hid hBX
      clear hBX hB2 hB3
      gi_wp2_with (gi_at_builtin; refine wpListIn_append_own _ rfl _ _ 26 rfl (w.heap.size + 6) 64 i0 (.agg #[.int .i64 0, .int .i64 0]) 2 16 Tryz.underlying26 hinf hz0 hz1 hz2 rfl (by decide) _ _ _ rfl (ho3.alloc _) ⟨X3.heap.size, 0, none⟩ 1 1 [.int .i64 a, .int .i64 b] rfl rfl ?q1 ?q2 ?q3 ?q4 ?q5 ?_)
      case q1 =>
        intro j u hj
        match j, hj with
        | 0, hj => simp at hj; subst hj; simp [Addr.add]
        | 1, hj => simp at hj; subst hj; simp [Addr.add]
      case q2 => intro u hu; simp at hu; rcases hu with rfl | rfl <;> rfl
      case q3 => unfold maxLen; omega
      case q4 => omega
      case q5 => simp; omega
      intro v4 X4 ho4 hgr _
      have hk4 : ∀ k, k < X3.heap.size + 1 → some k ≠ v.ownBlock → X4.heap[k]? = (X3.alloc (.cells #[.int .i64 a, .int .i64 b] 64)).heap[k]? := fun k hk hn => hgr.block k (by simpa using hk) hn
      have h34 : ∀ k, k < X3.heap.size → some k ≠ v.ownBlock → X4.heap[k]? = X3.heap[k]? := fun k hk hn => (hk4 k (by omega) hn).trans (heap_alloc_lt _ _ _ hk)
      have hvb : ∀ k, k < w.heap.size + 6 → some k ≠ v.ownBlock := fun k hk e => by have := (Ho.out.lt k e.symm).1; omega
      have hb4 : X4.heap[w.heap.size + 2]? = some (.cells #[v] 26 (0, 0)) := (h34 _ (by omega) (hvb _ (by omega))).trans hb3.out
      have c4 := cell_of_block hb4
      have f4 := frozen_of_block hb4
      obtain ⟨g4, cap4, rfl⟩ : ∃ g4 cap4, v4 = .slice (some ⟨g4, 0, none⟩) (pre.length + 1) cap4 := by
        rcases ho4.2 with ⟨_, h0⟩ | ⟨g4, cap4, cur, hv4, _⟩
        · omega
        · exact ⟨g4, cap4, hv4⟩
      have Hb4 := Lib.hid hb4; clear hb4
      have Ho4 := Lib.hid ho4; clear ho4
      have Hgr := Lib.hid hgr; clear hgr
      have Hk4 := Lib.hid h34; clear h34 hk4 c2
      have Hvb := Lib.hid hvb; clear hvb
      gi_wp2_with fail
      exact uids_round HWs.out hz' hB Ho.out (Or.inr ⟨_, Hb.out⟩) Hb0.out Hb1.out HBX.out Hgr.out Hb4.out Ho4.out Hk4.out Hvb.out Hrc.out
    | true =>
      have hab' := hab rfl
      clear hab
      gi_wp2_with fail
      refine ⟨trivial, ?_⟩
      refine (CallsIn.inRound l (callsIn_wide.2 HC.out)).mono ?_
      rintro e X1 ⟨rfl, n1, rfl⟩
      gi_wp2_with fail
      refine ⟨trivial, ?_⟩
      refine (CallsIn.inRound l (callsIn_wide.2 (number_ok f a _ Hf.out))).mono ?_
      rintro e X2 ⟨rfl, hB2⟩
      gi_wp2_with fail
      refine ⟨trivial, ?_⟩
      refine (CallsIn.inRound l (callsIn_wide.2 (number_ok t b _ Ht.out))).mono ?_
      rintro e X3 ⟨rfl, hB3⟩
      have hBX : Below X.heap.size X X3 := (below_drewN (Below.refl _ X) n1).trans (hB2.trans (hB3.mono hB2.size))
      have ho3 : X3.ownsRow (w.heap.size + 6) 64 2 v pre.length (rcells (rs.take pre.length)) := ownsRow_same Ho.out (fun k cs t fr _ hk => hBX.block k (Array.getElem?_eq_some_iff.1 hk).1)
      have hb3 := Lib.hid ((hBX.block _ (by omega)).trans Hb.out)
      have c2 := cell_of_block hb3.out
      have hz3 : w.heap.size + 6 ≤ X3.heap.size := Nat.le_trans hz' hBX.size
      have HBX := Lib.hid hBX
      clear hBX hB2 hB3
      gi_wp2_with (gi_at_builtin; refine wpListIn_append_own _ rfl _ _ 26 rfl (w.heap.size + 6) 64 i0 (.agg #[.int .i64 0, .int .i64 0]) 2 16 Tryz.underlying26 hinf hz0 hz1 hz2 rfl (by decide) _ _ _ rfl (ho3.alloc _) ⟨X3.heap.size, 0, none⟩ 1 1 [.int .i64 a, .int .i64 b] rfl rfl ?q1 ?q2 ?q3 ?q4 ?q5 ?_)
      case q1 =>
        intro j u hj
        match j, hj with
        | 0, hj => simp at hj; subst hj; simp [Addr.add]
        | 1, hj => simp at hj; subst hj; simp [Addr.add]
      case q2 => intro u hu; simp at hu; rcases hu with rfl | rfl <;> rfl
      case q3 => unfold maxLen; omega
      case q4 => omega
      case q5 => simp; omega
      intro v4 X4 ho4 hgr _
      have hk4 : ∀ k, k < X3.heap.size + 1 → some k ≠ v.ownBlock → X4.heap[k]? = (X3.alloc (.cells #[.int .i64 a, .int .i64 b] 64)).heap[k]? := fun k hk hn => hgr.block k (by simpa using hk) hn
      have h34 : ∀ k, k < X3.heap.size → some k ≠ v.ownBlock → X4.heap[k]? = X3.heap[k]? := fun k hk hn => (hk4 k (by omega) hn).trans (heap_alloc_lt _ _ _ hk)
      have hvb : ∀ k, k < w.heap.size + 6 → some k ≠ v.ownBlock := fun k hk e => by have := (Ho.out.lt k e.symm).1; omega
      have hb4 : X4.heap[w.heap.size + 2]? = some (.cells #[v] 26 (0, 0)) := (h34 _ (by omega) (hvb _ (by omega))).trans hb3.out
      have c4 := cell_of_block hb4
      have f4 := frozen_of_block hb4
      obtain ⟨g4, cap4, rfl⟩ : ∃ g4 cap4, v4 = .slice (some ⟨g4, 0, none⟩) (pre.length + 1) cap4 := by
        rcases ho4.2 with ⟨_, h0⟩ | ⟨g4, cap4, cur, hv4, _⟩
        · omega
        · exact ⟨g4, cap4, hv4⟩
      have Hb4 := Lib.hid hb4; clear hb4
      have Ho4 := Lib.hid ho4; clear ho4
      have Hgr := Lib.hid hgr; clear hgr
      have Hk4 := Lib.hid h34; clear h34 hk4 c2
      have Hvb := Lib.hid hvb; clear hvb
      gi_wp2_with fail
      exact uids_round HWs.out hz' hB Ho.out (Or.inr ⟨_, Hb.out⟩) Hb0.out Hb1.out HBX.out Hgr.out Hb4.out Ho4.out Hk4.out Hvb.out Hrc.out
  case hdone =>
    intro D X hD hI hK
    obtain ⟨⟨v, hb, ho⟩, hb0, hb1, hB, hz'⟩ := hI
    have c0 := cell_of_block hb0
    have c1 := cell_of_block hb1
    have c2 := cell_of_block hb
    have f0 := frozen_of_block hb0
    have f1 := frozen_of_block hb1
    obtain ⟨A, c, rfl⟩ : ∃ A c, v = .slice A parts.length c := by
      rcases ho.2 with ⟨rfl, h⟩ | ⟨g, cap, cur, hv, _⟩
      · exact ⟨none, 0, by rw [h]⟩
      · exact ⟨_, _, hv⟩
    have hlp : ((parts.length : Int)) ≤ 60 := by omega
    have hsz0 := Array.getElem?_eq_some_iff.1 hb0
    have hD' : w.heap.size + 6 ≤ D := by rw [HWs.out] at hD; exact hD
    have hK' : ((X.setCell ⟨w.heap.size, 0, none⟩ (.slice A rs.length c)).setCell ⟨w.heap.size + 1, 0, none⟩ (.int .i64 0)).heap[D]? = some (.deferred (some [])) := by
      rw [setCell_heap_loop (by simp only []; omega), setCell_heap_loop (by simp only []; omega)]; exact hK
    have HK := Lib.hid hK'; clear hK' hK
    have Hb := Lib.hid hb; clear hb
    have Ho := Lib.hid ho; clear ho
    have Hb0 := Lib.hid hb0; clear hb0
    have Hb1 := Lib.hid hb1; clear hb1
    gi_wp2_with fail
    generalize hY : ((X.setCell ⟨w.heap.size, 0, none⟩ (.slice A rs.length c)).setCell ⟨w.heap.size + 1, 0, none⟩ (.int .i64 0)) = Y at *
    have hBY : Below w.heap.size w Y := by rw [← hY]; exact (hB.setCell (p := ⟨w.heap.size, 0, none⟩) (by simp) _).setCell (p := ⟨w.heap.size + 1, 0, none⟩) (by simp) _
    have y0 : Y.cell? ⟨w.heap.size, 0, none⟩ = some (.slice A rs.length c) := by
      rw [← hY, World.cell?_setCell_other _ _ _ _ (by simp), World.cell?_setCell_same _ _ _ c0]
    have y1 : Y.cell? ⟨w.heap.size + 1, 0, none⟩ = some (.int .i64 0) := by
      rw [← hY, World.cell?_setCell_same _ _ _ ((World.cell?_setCell_other _ _ _ _ (by simp)).trans c1)]
    have hoY : Y.ownsRow (w.heap.size + 6) 64 2 (.slice A rs.length c) rs.length (rcells rs) := by
      have := Ho.out
      rw [hl, List.take_length] at this
      rw [← hY]
      exact ownsRow_same this (fun k _ _ _ hk _ => by rw [setCell_heap_loop (by simp only []; omega), setCell_heap_loop (by simp only []; omega)])
    refine ⟨by simp, .inl ⟨_, _, rfl, run_takeDeferred HK.out, ?_⟩⟩
    have hnD : ∀ k, k ≠ D → (Y.putObj D (.deferred none)).heap[k]? = Y.heap[k]? := fun k hk => World.putObj_heap_other hk
    have z0 : (Y.putObj D (.deferred none)).cell? ⟨w.heap.size, 0, none⟩ = some (.slice A rs.length c) := (World.cell?_of_block (w := Y) (hnD _ (by simp only []; omega))).trans y0
    have z1 : (Y.putObj D (.deferred none)).cell? ⟨w.heap.size + 1, 0, none⟩ = some (.int .i64 0) := (World.cell?_of_block (w := Y) (hnD _ (by simp only []; omega))).trans y1
    refine ⟨.tuple #[.slice A rs.length c, .int .i64 0], by simp [results, Tryz.results107, go_sem, z0, z1], ⟨_, rfl, ?_⟩, ?_⟩
    · exact ownsRow_weaken (ownsRow_putObj hoY _ HK.out rfl) (by omega)
    · exact hBY.trans (belowK_b (w := w) (Nat.le_refl _) Y D _ _ (by omega) HK.out rfl rfl)

end Go.Proofs.YtjamgkcmpcnfpaaGreatDoor

namespace Go.Proofs.YtjamgkcmpcnfpaaGreatDoor
open Go.RowKit

/-- A text of ranges that is taken. -/
structure SetOk (a : List UInt8) (rs : List (Nat × Nat)) : Prop where
  size : a.length ≤ 2000
  len : rs.length ≤ 60
  ex : ∃ parts : List (List UInt8), a = joinC 44 parts ∧ parts ≠ [] ∧ (∀ x ∈ parts, (44 : UInt8) ∉ x) ∧ ∃ hl : parts.length = rs.length, ∀ i (hi : i < parts.length), PartOk parts[i] (rs[i]'(by omega)).1 (rs[i]'(by omega)).2

set_option maxHeartbeats 1000000 in
theorem set_any (g : Nat) (t : ByteArray) (a b : List UInt8) (rs : List (Nat × Nat)) (rv kv : Value) (m : Int) (w : World) (hA : At g w t rv kv) (ht : t.data.toList = a ++ b) (hs : t.size ≤ 9223372036854775807) (hpos : a ≠ [])
    (ha : allB (atomOr [42]) a = true) (hb : stopB (atomOr [42]) b = true) (hset : SetOk a rs) (hM : w.cell? ⟨4, 0, none⟩ = some (.int .i64 m)) (hg4 : 4 ≠ g) :
    Calls Tryz.prog 79 #[PP g] w fun e w' => ∃ v, e = .returned v ∧ At g w' ⟨b.toArray⟩ rv kv ∧ Kept g w w' ∧ w'.ownsRow w.heap.size 64 2 v rs.length (rcells rs) := by
  have hc := atom_any g t ⟨#[42]⟩ a b rv kv w hA ht hs hpos ha hb
  obtain ⟨hsz, h60, parts, rfl, hne, hno, hl, hok⟩ := hset
  have h4 : 4 < w.heap.size := World.block_lt_of_cell? _ _ hM
  have hU := fun (w1 : World) (hk : Kept g w w1) => uidsParse_any ⟨(joinC 44 parts).toArray⟩ parts rs m w1 (by simp) (by rw [size_bytes]; simpa using hsz) hne hno hl h60 hok ((hk.cell (p := ⟨4, 0, none⟩) h4 hg4).trans hM) (Nat.lt_of_lt_of_le h4 hk.size)
  have Hc := Lib.hid hc; clear hc
  have HU := Lib.hid hU; clear hU
  clear ht ha hb hpos hs hok hl hno hne hM
  go_enter Tryz.func79, Tryz.ntmps79
  go_wp2_with fail
  refine Hc.out.mono ?_
  rintro e w1 ⟨rfl, hA1, hK1⟩
  go_wp2_with fail
  refine (HU.out w1 hK1).mono ?_
  rintro e w2 ⟨⟨v, rfl, ho⟩, hB⟩
  go_wp2_with fail
  refine (must_yes _).mono ?_
  rintro e w3 ⟨rfl, rfl⟩
  go_wp2_with fail
  go_ret
  exact ⟨v, rfl, hA1.of_below hB hA1.lt, hK1.andBelow hB hK1.size, ownsRow_weaken ho hK1.size⟩

end Go.Proofs.YtjamgkcmpcnfpaaGreatDoor
