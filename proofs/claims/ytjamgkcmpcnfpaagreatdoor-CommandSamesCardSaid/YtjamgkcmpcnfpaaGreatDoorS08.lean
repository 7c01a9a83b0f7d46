/-
  Rows that a call makes by appending: of each element what kind of cells it has; reading, appending.
  The reference's 'atomic', 'in' and 'word'.
  The reference's 'word'.
-/
import Derived.Test.YtjamgkcmpcnfpaaGreatDoorS07
import Derived.Test.YtjamgkcmpcnfpaaGreatDoorS04
import Derived.Test.YtjamgkcmpcnfpaaGreatDoorS02
import Derived.Deep.LoopGhost
set_option linter.unusedVariables false
set_option linter.unusedSimpArgs false

namespace Go.Proofs.YtjamgkcmpcnfpaaGreatDoor
open Go.RowKit

/-- A row of n elements of sz cells each, every one of them as Ok says, in a block of its own from B on (or nil). -/
def Rowed (B : Nat) (e : TypeId) (sz : Nat) (Ok : List Value → Prop) (v : Value) (n : Nat) (W : World) : Prop :=
  ∃ els : List (List Value), els.length = n ∧ (∀ x ∈ els, x.length = sz ∧ Ok x) ∧ W.ownsRow B e sz v n els.flatten

section
variable {B : Nat} {e : TypeId} {sz : Nat} {Ok Ok' : List Value → Prop} {v : Value} {n : Nat} {W W' : World}

theorem Rowed.nil (W : World) : Rowed B e sz Ok (.slice none 0 0) 0 W := ⟨[], rfl, (fun x hx => (List.not_mem_nil hx).elim), World.ownsRow_nil W B e sz⟩

theorem Rowed.mono (h : Rowed B e sz Ok v n W) (hO : ∀ x, x.length = sz → Ok x → Ok' x) : Rowed B e sz Ok' v n W := by
  obtain ⟨els, h1, h2, h3⟩ := h
  exact ⟨els, h1, fun x hx => ⟨(h2 x hx).1, hO x (h2 x hx).1 (h2 x hx).2⟩, h3⟩

theorem Rowed.lt (h : Rowed B e sz Ok v n W) : ∀ k, v.ownBlock = some k → B ≤ k ∧ k < W.heap.size := by
  obtain ⟨els, h1, h2, h3⟩ := h
  exact h3.lt

/-- The row stands where its block does. -/
theorem Rowed.kept (h : Rowed B e sz Ok v n W) (hm : ∀ k, v.ownBlock = some k → W'.heap[k]? = W.heap[k]?) : Rowed B e sz Ok v n W' := by
  obtain ⟨els, h1, h2, h3, h4⟩ := h
  refine ⟨els, h1, h2, h3, ?_⟩
  rcases h4 with h4 | ⟨g, cap, cur, rfl, hg, hh, r⟩
  · exact .inl h4
  · exact .inr ⟨g, cap, cur, rfl, hg, (hm g rfl).trans hh, r⟩

theorem Rowed.step (h : Rowed B e sz Ok v n W) (hb : Below W.heap.size W W') : Rowed B e sz Ok v n W' := h.kept fun k hk => hb.block k (h.lt k hk).2

theorem Rowed.base {B' : Nat} (h : Rowed B e sz Ok v n W) (hB : B' ≤ B) : Rowed B' e sz Ok v n W := by
  obtain ⟨els, h1, h2, h3, h4⟩ := h
  refine ⟨els, h1, h2, h3, ?_⟩
  rcases h4 with h4 | ⟨g, cap, cur, rfl, hg, r⟩
  · exact .inl h4
  · exact .inr ⟨g, cap, cur, rfl, by omega, r⟩

theorem flat_at (sz : Nat) : ∀ (els : List (List Value)), (∀ x ∈ els, x.length = sz) → ∀ i j, j < sz → els.flatten[i * sz + j]? = (els[i]?).bind fun x => x[j]?
  | [], _, i, j, _ => by simp
  | x :: r, h, 0, j, hj => by
    have hx : x.length = sz := h x (by simp)
    rw [List.flatten_cons, Nat.zero_mul, Nat.zero_add, List.getElem?_append_left (by omega)]
    simp
  | x :: r, h, i + 1, j, hj => by
    have hx : x.length = sz := h x (by simp)
    rw [List.flatten_cons, List.getElem?_append_right (by rw [hx, Nat.succ_mul]; omega)]
    have e1 : (i + 1) * sz + j - x.length = i * sz + j := by rw [hx, Nat.succ_mul]; omega
    rw [e1, flat_at sz r (fun y hy => h y (by simp [hy])) i j hj]
    simp

/-- Where a row lies, and what its elements are. -/
theorem Rowed.at_ (h : Rowed B e sz Ok v n W) (hn : 0 < n) : ∃ g cap, v = .slice (some ⟨g, 0, none⟩) n cap ∧ B ≤ g ∧ g < W.heap.size ∧ (∀ o, W.frozen? ⟨g, o, none⟩ = false) ∧
    ∀ i, i < n → ∃ x : List Value, Ok x ∧ x.length = sz ∧ ∀ j u, x[j]? = some u → W.cell? ⟨g, i * sz + j, none⟩ = some u := by
  obtain ⟨els, h1, h2, h3, h4⟩ := h
  rcases h4 with ⟨_, h0⟩ | ⟨g, cap, cur, rfl, hg, hh, hc, _, hs, hx⟩
  · omega
  · refine ⟨g, cap, rfl, hg, (Array.getElem?_eq_some_iff.1 hh).1, fun o => Lib.frozen_of_heap hh o, fun i hi => ?_⟩
    obtain ⟨x, hx'⟩ : ∃ x, els[i]? = some x := ⟨_, List.getElem?_eq_getElem (by omega)⟩
    have hm := List.mem_of_getElem? hx'
    refine ⟨x, (h2 x hm).2, (h2 x hm).1, fun j u hj => ?_⟩
    have hjs : j < sz := by have := (List.getElem?_eq_some_iff.1 hj).1; rw [(h2 x hm).1] at this; exact this
    have hf := flat_at sz els (fun y hy => (h2 y hy).1) i j hjs
    rw [hx', Option.bind_some, hj, ← hx] at hf
    have hlt : i * sz + j < n * sz := by
      have := Nat.mul_le_mul_right sz (show i + 1 ≤ n by omega)
      rw [Nat.succ_mul] at this
      omega
    rw [List.getElem?_take_of_lt hlt] at hf
    exact cell_hp hh (by simpa using hf)

theorem Rowed.slice (h : Rowed B e sz Ok v n W) : v = .slice none 0 0 ∧ n = 0 ∨ ∃ g cap, v = .slice (some ⟨g, 0, none⟩) n cap := by
  obtain ⟨els, h1, h2, h3, h4⟩ := h
  rcases h4 with h4 | ⟨g, cap, cur, rfl, _⟩
  · exact .inl h4
  · exact .inr ⟨g, cap, rfl⟩

/-- AN ELEMENT IS APPENDED. -/
theorem wpList_append_row {ops : Array Oper} {rest : List Oper} {o : Oper} {a : Act} {w : World} {Q : Exit → Act → World → Prop} (hgd : o.guard = none) (s x : Operand) (t : TypeId)
    (ho : o.op = .call { callee := .builtin .append, args := #[s, x], argTypes := #[t, t] })
    (base : Nat) (e : TypeId) (i : TypeInfo) (z : Value) (size bytes : Nat) (ht : Tryz.prog.underlying t = some (.slice e)) (hi : Tryz.prog.info? e = some i) (hz : i.zero = some z)
    (hsize : i.size = size) (hby : i.bytes = bytes) (hzs : z.cells.size = size) (hsz : 0 < size)
    (v : Value) (n : Nat) (Ok : List Value → Prop) (hs : a.eval s = v) (hrow : Rowed base e size Ok v n w)
    (gx : Nat) (news : List Value) (te : TypeId) (fr : Nat × Nat) (hx : a.eval x = .slice (some ⟨gx, 0, none⟩) 1 1) (hcell : w.heap[gx]? = some (.cells news.toArray te fr)) (hl : news.length = size) (hok : Ok news) (h1 : ∀ u ∈ news, u.oneCell' = true)
    (hn : n ≤ 100000) (hb1 : bytes ≤ 1000) (hbase : base ≤ w.heap.size)
    (h : ∀ v' w', Rowed base e size Ok v' (n + 1) w' → w.grownBy w' v.ownBlock → wpList Tryz.prog ops Q rest (a.put o.dst v') w') : wpList Tryz.prog ops Q (o :: rest) a w := by
  obtain ⟨els, e1, e2, e3⟩ := hrow
  refine wpList_append_own w hgd s x t ho base e i z size bytes ht hi hz hsize hby hzs hsz v n els.flatten hs e3 ⟨gx, 0, none⟩ 1 1 news hx (by rw [hl, Nat.one_mul]) (fun j u hj => ?_) h1 (by unfold maxLen; omega) ?_ hbase fun v' w' h2 h3 _ => h v' w' ?_ h3
  · have : (⟨gx, 0, none⟩ : Addr).add j = ⟨gx, j, none⟩ := by unfold Addr.add; split <;> simp_all
    rw [this]
    unfold World.cell?
    rw [hcell]
    simpa using hj
  · have := Nat.mul_le_mul (show n + 1 ≤ 100001 by omega) hb1
    omega
  · exact ⟨els ++ [news], by simp [e1], fun y hy => by rcases List.mem_append.1 hy with hy | hy; exact e2 y hy; (rw [List.mem_singleton.1 hy]; exact ⟨hl, hok⟩), by simpa using h2⟩
end

/-- Kinds of elements. -/
def OneInt (x : List Value) : Prop := ∃ n : Int, x = [.int .i64 n]
def OneStr (m : Nat) (x : List Value) : Prop := ∃ s : ByteArray, x = [.string s] ∧ s.size ≤ m
def TwoInts (x : List Value) : Prop := ∃ n k : Int, x = [.int .i64 n, .int .i64 k]

theorem info9 : (Tryz.prog.info? 9).map (fun i => (i.zero, i.size, i.bytes)) = some (some (.string ⟨#[]⟩), 1, 16) := by kernel_rfl
theorem info3 : (Tryz.prog.info? 3).map (fun i => (i.zero, i.size, i.bytes)) = some (some (.int .i64 0), 1, 8) := by kernel_rfl

end Go.Proofs.YtjamgkcmpcnfpaaGreatDoor

namespace Go.Proofs.YtjamgkcmpcnfpaaGreatDoor
open Go.RowKit

/-- May a byte be in an atom? -/
def atomQ (c : Int) : Bool := decide (32 < c) && decide (c ≤ 126) && (c != 40) && (c != 41) && (c != 123) && (c != 37) && (c != 42) && (c != 34) && (c != 92) && (c != 93)

set_option maxHeartbeats 4000000 in
theorem atomic24 (c : Int) (w : World) : Calls Tryz.prog 94 #[.int .u8 c] w fun e w' => e = .returned (.bool (atomQ c)) ∧ w' = w := by
  unfold atomQ
  by_cases h1 : 32 < c
  · by_cases h2 : c ≤ 126
    · by_cases h3 : c = 40
      · subst h3
        go_enter Tryz.func94, Tryz.ntmps94
        go_wp2_with fail
        go_ret
        exact ⟨rfl, rfl⟩
      · by_cases h4 : c = 41
        · subst h4
          go_enter Tryz.func94, Tryz.ntmps94
          go_wp2_with fail
          go_ret
          exact ⟨rfl, rfl⟩
        · by_cases h5 : c = 123
          · subst h5
            go_enter Tryz.func94, Tryz.ntmps94
            go_wp2_with fail
            go_ret
            exact ⟨rfl, rfl⟩
          · by_cases h6 : c = 37
            · subst h6
              go_enter Tryz.func94, Tryz.ntmps94
              go_wp2_with fail
              go_ret
              exact ⟨rfl, rfl⟩
            · by_cases h7 : c = 42
              · subst h7
                go_enter Tryz.func94, Tryz.ntmps94
                go_wp2_with fail
                go_ret
                exact ⟨rfl, rfl⟩
              · by_cases h8 : c = 34
                · subst h8
                  go_enter Tryz.func94, Tryz.ntmps94
                  go_wp2_with fail
                  go_ret
                  exact ⟨rfl, rfl⟩
                · by_cases h9 : c = 92
                  · subst h9
                    go_enter Tryz.func94, Tryz.ntmps94
                    go_wp2_with fail
                    go_ret
                    exact ⟨rfl, rfl⟩
                  · by_cases h10 : c = 93
                    · subst h10
                      go_enter Tryz.func94, Tryz.ntmps94
                      go_wp2_with fail
                      go_ret
                      exact ⟨rfl, rfl⟩
                    · have k1 : decide (32 < c) = true := by simpa using h1
                      have k2 : decide (c ≤ 126) = true := by simpa using h2
                      have k3 : (c != 40) = true := by simpa using h3
                      have k4 : (c != 41) = true := by simpa using h4
                      have k5 : (c != 123) = true := by simpa using h5
                      have k6 : (c != 37) = true := by simpa using h6
                      have k7 : (c != 42) = true := by simpa using h7
                      have k8 : (c != 34) = true := by simpa using h8
                      have k9 : (c != 92) = true := by simpa using h9
                      have k10 : (c != 93) = true := by simpa using h10
                      rw [k1, k2, k3, k4, k5, k6, k7, k8, k9, k10]
                      clear h1 h2 h3 h4 h5 h6 h7 h8 h9 h10
                      go_enter Tryz.func94, Tryz.ntmps94
                      go_wp2_with fail
                      go_ret
                      exact ⟨rfl, rfl⟩
    · have k1 : decide (32 < c) = true := by simpa using h1
      have k2 : decide (c ≤ 126) = false := by simpa using h2
      rw [k1, k2]
      clear h1 h2
      go_enter Tryz.func94, Tryz.ntmps94
      go_wp2_with fail
      go_ret
      exact ⟨rfl, rfl⟩
  · have k1 : decide (32 < c) = false := by simpa using h1
    rw [k1]
    clear h1
    go_enter Tryz.func94, Tryz.ntmps94
    go_wp2_with fail
    go_ret
    exact ⟨rfl, rfl⟩

/-- Has a text a byte? -/
def inQ (s : ByteArray) (b : Int) : Bool := s.data.toList.any fun x => (x.toNat : Int) == b

theorem inQ_yes (s : ByteArray) (b : Int) (k : Nat) (h : k < s.size) (e : (s[k].toNat : Int) = b) : inQ s b = true := by
  unfold inQ
  rw [List.any_eq_true]
  exact ⟨s[k], by rw [← Array.mem_def]; exact Array.getElem_mem h, by simpa using e⟩

theorem inQ_no (s : ByteArray) (b : Int) (h : ∀ j, j < s.size → byteAt s j ≠ b) : inQ s b = false := by
  unfold inQ
  rw [List.any_eq_false]
  intro x hx
  obtain ⟨j, hj, rfl⟩ := List.getElem_of_mem hx
  have hj' : j < s.size := by rw [size_bytes]; exact hj
  intro e
  exact h j hj' (by rw [byteAt_of s j hj']; show ((s.data[j]).toNat : Int) = b; simpa using e)

set_option maxHeartbeats 1000000 in
theorem in24 (s : ByteArray) (b : Int) (w : World) (hs : s.size ≤ 9223372036854775806) : Calls Tryz.prog 60 #[.string s, .int .u8 b] w fun e w' => e = .returned (.bool (inQ s b)) ∧ w' = w := by
  obtain ⟨q, hq⟩ : ∃ q, q = inQ s b := ⟨_, rfl⟩
  have HY : Hid (∀ k (h : k < s.size), (s[k].toNat : Int) = b → q = true) := Lib.hid fun k h e => hq.trans (inQ_yes s b k h e)
  have HN : Hid ((∀ j, j < s.size → byteAt s j ≠ b) → q = false) := Lib.hid fun h => hq.trans (inQ_no s b h)
  rw [← hq]
  clear hq
  go_enter Tryz.func60, Tryz.ntmps60
  go_wp2_with fail
  go_loop [5] (fun i => ∃ k : Nat, k ≤ s.size ∧ i = .int .i64 k ∧ Hid (∀ j, j < k → byteAt s j ≠ b)) (fun i => s.size - (intOf i).toNat)
  case atStart => exact ⟨0, by omega, rfl, Lib.hid fun j hj => by omega⟩
  case round =>
    obtain ⟨k, hk, rfl, Hr⟩ := hrel
    by_cases hlt : k < s.size
    · by_cases hc : byteAt s k = b
      · have hc' : ((s[k].toNat : Int) == b) = true := by rw [← byteAt_of s k hlt]; simpa using hc
        have hy := Lib.hid (HY.out k hlt (by rw [← byteAt_of s k hlt]; exact hc))
        clear hc
        go_wp2_with fail
        go_ret
        exact ⟨by rw [hy.out]; rfl, rfl⟩
      · have hc' : ((s[k].toNat : Int) == b) = false := by rw [← byteAt_of s k hlt]; simpa using hc
        have Hr2 : Hid (∀ j, j < k + 1 → byteAt s j ≠ b) := Lib.hid fun j hj => if e : j = k then e ▸ hc else Hr.out j (by omega)
        clear hc
        go_wp2_with fail
        go_round
        case rel => exact ⟨k + 1, by omega, by go_num, Hr2⟩
        case measure => simp [intOf]; omega
    · have hn := Lib.hid (HN.out fun j hj => Hr.out j (by omega))
      go_wp2_with fail
      go_ret
      exact ⟨by rw [hn.out]; rfl, rfl⟩

end Go.Proofs.YtjamgkcmpcnfpaaGreatDoor

namespace Go.Proofs.YtjamgkcmpcnfpaaGreatDoor
open Go.RowKit

/-- A string of at most so many bytes is returned; the cursor moved. -/
def StrMoves (g : Nat) (S : Src) (kv : Value) (r : Nat) (bad : Bool) (w : World) (e : Ending) (w' : World) : Prop :=
  ∃ s : ByteArray, e = .returned (.string s) ∧ s.size ≤ 2000 ∧ Moves g S kv r bad w w'

theorem Moves.step {g : Nat} {S : Src} {kv : Value} {r r' : Nat} {bad bad' : Bool} {w w1 w' : World} (h : Moves g S kv r' bad' w1 w') (hK : Kept g w w1) (hr : r' ≤ r) (hb : bad = true → bad' = true) : Moves g S kv r bad w w' := by
  obtain ⟨i, a, b, hC, hK', hl, hb'⟩ := h
  exact ⟨i, a, b, hC, hK.trans hK', Nat.le_trans hl hr, fun h => hb' (hb h)⟩

theorem left_le {S : Src} {i a a' : Nat} (h : a ≤ a') : left S i a' ≤ left S i a := by unfold left; omega

set_option maxHeartbeats 8000000 in
set_option maxRecDepth 100000 in
theorem word24 (g : Nat) (S : Src) (i a : Nat) (bad : Bool) (kv : Value) (more : ByteArray) (w : World) (h : Cur g S w i a bad kv) (hm : more.size ≤ 100) :
    Calls Tryz.prog 59 #[CC g, .string more] w (StrMoves g S kv (left S i a) bad w) := by
  have hi := h.hi
  have hn := h.hn
  have hsz := h.sz i hi
  have H := Lib.hid h
  clear h
  go_enter Tryz.func59, Tryz.ntmps59
  go_wp2_with fail
  go_loopw [5] (fun s wr => ∃ (a' : Nat) (t : ByteArray), s = .string t ∧ Cur g S wr i a' bad kv ∧ Kept g w wr ∧ a ≤ a' ∧ t.size ≤ a' ∧ a' ≤ (S.L i).size) (fun _ wr => 2001 - (intOf ((wr.cell? ⟨g, 2, none⟩).getD undef)).toNat)
  case atStart => exact ⟨a, ⟨#[]⟩, rfl, H.out, Kept.refl _ _, Nat.le_refl _, Nat.zero_le _, H.out.ha⟩
  case round =>
    obtain ⟨a', t, rfl, hC, hK, haa, hts, has⟩ := hrel
    have h0 := hC.c0
    have h1 := hC.c1
    have h2 := hC.c2
    have h3 := hC.c3
    have f2 := hC.f2
    have hs := hC.at_
    have HC := Lib.hid hC
    have HK := Lib.hid hK
    clear hC hK
    have wrapS := Lib.hid (show IntKind.i64.wrap ((a' : Int) + 1) = (a' : Int) + 1 from IntWalk.i64_in _ (by omega))
    go_wp2_with fail
    refine wp_region_quiet_lit (by kernel_rfl) (by kernel_rfl) ?_
    cases bad
    · by_cases hlt : a' < (S.L i).size
      · cases hq : atomQ ((S.L i)[a'].toNat : Int)
        · have HA := fun w => atomic24 ((S.L i)[a'].toNat : Int) w
          rw [hq] at HA
          cases hq2 : inQ more ((S.L i)[a'].toNat : Int)
          · have HI := fun w => in24 more ((S.L i)[a'].toNat : Int) w (by omega)
            rw [hq2] at HI
            clear hq hq2
            repeat (go_big_quiet_step ((first | (go_at_call 94; exact Calls.quiet_of_same (HA _)) | (go_at_call 60; exact Calls.quiet_of_same (HI _)))))
            refine wpQuiet_nil ?_
            rintro w1 ⟨m, rfl⟩
            go_wp2_with fail
            refine (fail_any g S i a' false _ kv _ (HC.out.drewN _)).mono ?_
            rintro e w2 ⟨rfl, hC, hK⟩
            go_wp2_with fail
            go_ret
            exact ⟨t, rfl, by omega, i, a', _, hC, (HK.out.drewN _).trans hK, left_le haa, fun h => by cases h⟩
          · have HI := fun w => in24 more ((S.L i)[a'].toNat : Int) w (by omega)
            rw [hq2] at HI
            clear hq hq2
            repeat (go_big_quiet_step ((first | (go_at_call 94; exact Calls.quiet_of_same (HA _)) | (go_at_call 60; exact Calls.quiet_of_same (HI _)))))
            refine wpQuiet_nil ?_
            rintro w1 ⟨m, rfl⟩
            go_wp2_with fail
            have hw1 := wrapS.out
            go_quiet (fail)
            clear hw1
            go_wp2_with fail
            go_roundw
            case rel => exact ⟨a' + 1, _, rfl, (HC.out.drewN _).set2 hlt, (HK.out.drewN _).setg 2 _, by omega, by simp [ByteArray.size_append, ByteArray.size_extract]; omega, hlt⟩
            case measure =>
              rw [World.cell?_setCell_same _ _ _ (show (World.drewN _ _).cell? _ = _ from h2), h2]
              simp [intOf]
              omega
        · have HA := fun w => atomic24 ((S.L i)[a'].toNat : Int) w
          rw [hq] at HA
          clear hq
          repeat (go_big_quiet_step ((first | (go_at_call 94; exact Calls.quiet_of_same (HA _)))))
          refine wpQuiet_nil ?_
          rintro w1 ⟨m, rfl⟩
          go_wp2_with fail
          have hw1 := wrapS.out
          go_quiet (fail)
          clear hw1
          go_wp2_with fail
          go_roundw
          case rel => exact ⟨a' + 1, _, rfl, (HC.out.drewN _).set2 hlt, (HK.out.drewN _).setg 2 _, by omega, by simp [ByteArray.size_append, ByteArray.size_extract]; omega, hlt⟩
          case measure =>
            rw [World.cell?_setCell_same _ _ _ (show (World.drewN _ _).cell? _ = _ from h2), h2]
            simp [intOf]
            omega
      · skip
        repeat (go_big_quiet_step ((fail)))
        refine wpQuiet_nil ?_
        rintro w1 ⟨m, rfl⟩
        go_wp2_with fail
        refine (fail_any g S i a' false _ kv _ (HC.out.drewN _)).mono ?_
        rintro e w2 ⟨rfl, hC, hK⟩
        go_wp2_with fail
        go_ret
        exact ⟨t, rfl, by omega, i, a', _, hC, (HK.out.drewN _).trans hK, left_le haa, fun h => by cases h⟩
    · skip
      repeat (go_big_quiet_step ((fail)))
      refine wpQuiet_nil ?_
      rintro w1 ⟨m, rfl⟩
      go_wp2_with fail
      refine (fail_any g S i a' true _ kv _ (HC.out.drewN _)).mono ?_
      rintro e w2 ⟨rfl, hC, hK⟩
      go_wp2_with fail
      go_ret
      exact ⟨t, rfl, by omega, i, a', _, hC, (HK.out.drewN _).trans hK, left_le haa, fun _ => rfl⟩

end Go.Proofs.YtjamgkcmpcnfpaaGreatDoor
