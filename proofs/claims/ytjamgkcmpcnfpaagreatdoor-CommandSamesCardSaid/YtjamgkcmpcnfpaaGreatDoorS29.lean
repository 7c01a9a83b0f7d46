/-
  The document's 'Parse' returns a command whose rows can be read.
  A command that the document's Parse returns holds something; the law's look at the length of its lines.
-/
import Derived.Test.YtjamgkcmpcnfpaaGreatDoorS28
import Derived.Test.YtjamgkcmpcnfpaaGreatDoorS20
set_option linter.unusedVariables false
set_option linter.unusedSimpArgs false

namespace Go.Proofs.YtjamgkcmpcnfpaaGreatDoor
open Go.RowKit

theorem results_ref {tmps : Array Value} {w : World} {g : Nat} {cs : Array Value} {v : Value} (hp : tmps.getD 2 undef = .pointer (some ⟨g, 0, none⟩)) (hv : tmps.getD 3 undef = v)
    (hg : w.heap[g]? = some (.cells cs 31 (0, 0))) (hi : (Tryz.prog.info? 31).map (·.size) = some cs.size) : (results Tryz.f18 tmps).run Tryz.prog w = .ok (.tuple #[.agg cs, v]) w := by
  have hp' : tmps[2]?.getD undef = .pointer (some ⟨g, 0, none⟩) := by simpa using hp
  have hv' : tmps[3]?.getD undef = v := by simpa using hv
  simp [results, Tryz.results18, hp', hv', asAddr, run_loadVar_row w g 31 31 cs (0, 0) _ hg Tryz.underlying31 rfl hi]

theorem cmd_size {cs : Array Value} (h : cs.size = 15) : (Tryz.prog.info? 31).map (·.size) = some cs.size := by rw [h]; kernel_rfl

theorem Rowed.one {B : Nat} {e : TypeId} {sz : Nat} {Ok : List Value → Prop} {v : Value} {n : Nat} {W : World} (h : Rowed B e sz Ok v n W) : v.oneCell' = true := by
  rcases h.slice with ⟨rfl, _⟩ | ⟨_, _, rfl⟩ <;> rfl

theorem CmdOk.one {B : Nat} {W : World} {cs : Array Value} (h : CmdOk B W cs.toList) : cs.all (·.oneCell') = true := by
  obtain ⟨tag, box, dest, body, op, mode, flags, date, num, uid, quiet, sv, iv, fv, kv, s, i, f, k, hx, hs, hi, hf, hk, hS, hI, hF, hK⟩ := h
  have e : cs = cmdT tag op uid box dest sv mode quiet flags date num body iv fv kv := by rw [← Array.toArray_toList (xs := cs), hx]
  rw [e]
  have h1 := hS.one
  have h2 := hI.one
  have h3 := hF.one
  have h4 := hK.one
  simp [Value.oneCell'] at *
  simp [*]

theorem CmdOk.base {B B' : Nat} {W : World} {x : List Value} (h : CmdOk B W x) (hB : B' ≤ B) : CmdOk B' W x := by
  obtain ⟨tag, box, dest, body, op, mode, flags, date, num, uid, quiet, sv, iv, fv, kv, s, i, f, k, rfl, hs, hi, hf, hk, hS, hI, hF, hK⟩ := h
  exact ⟨tag, box, dest, body, op, mode, flags, date, num, uid, quiet, sv, iv, fv, kv, s, i, f, k, rfl, hs, hi, hf, hk, hS.base hB, hI.base hB, (hF.mono fun x _ hx => hx.base hB).base hB, (hK.mono fun x _ hx => hx.base hB).base hB⟩

theorem cmd_nil (B : Nat) (W : World) : CmdOk B W zeroCmd.toList :=
  ⟨⟨#[]⟩, ⟨#[]⟩, ⟨#[]⟩, ⟨#[]⟩, 0, 0, 0, 0, 0, false, false, _, _, _, _, 0, 0, 0, 0, rfl, by omega, by omega, by omega, by omega, Rowed.nil _, Rowed.nil _, Rowed.nil _, Rowed.nil _⟩

/-- A command is returned; what was there stands. -/
def ParseP (w : World) (e : Ending) (W : World) : Prop :=
  ∃ (cs : Array Value) (err : Int), e = .returned (.tuple #[.agg cs, .int .i64 err]) ∧ cs.size = 15 ∧ CmdOk w.heap.size W cs.toList ∧ Below w.heap.size w W

/-- A command is stored where the result lies. -/
theorem parse_done {w W : World} {cs : Array Value} {err : Int} (hR : W.heap[w.heap.size]? = some (.cells zeroCmd 31 (0, 0))) (hb : Below w.heap.size w W) (h15 : cs.size = 15) (hC : CmdOk w.heap.size W cs.toList) : ParseP w (.returned (.tuple #[.agg cs, .int .i64 err])) (W.setRow w.heap.size cs) := by
  have other : ∀ k, k ≠ w.heap.size → (W.setRow w.heap.size cs).heap[k]? = W.heap[k]? := fun k hk => setRow_other _ _ _ _ hk
  have typ : ∀ e : TypeId, e ≠ 31 → Typed e W (W.setRow w.heap.size cs) := fun e he k cs' fr' hk => other k fun e1 => by
    rw [e1, hR] at hk
    injection hk with hk
    injection hk with _ hk
    exact he hk.symm
  exact ⟨cs, err, rfl, h15, hC.typed (typ 3 (by decide)) (typ 9 (by decide)) (typ 59 (by decide)) (typ 64 (by decide)) (typ 77 (by decide)), hb.os, hb.tape, hb.output, by simpa [World.setRow] using hb.size, fun k hk => (other k (by omega)).trans (hb.block k hk)⟩

set_option maxHeartbeats 16000000 in
set_option maxRecDepth 100000 in
theorem ref_parse_nil (w : World) : Calls Tryz.prog 18 #[.slice none 0 0] w (ParseP w) := by
  have hR := (MapKept.heap_alloc w (.cells zeroCmd 31)).1
  have HR := Lib.hid hR
  have HB := Lib.hid ((Below.refl _ w).alloc (Nat.le_refl _) (.cells zeroCmd 31))
  clear hR
  go_enter Tryz.func18, Tryz.ntmps18
  go_wp2_with (refine wpList_store_row rfl 31 _ _ rfl w.heap.size zeroCmd rfl rfl 31 zeroCmd HR.out (cmd_size rfl) rfl (cmd_nil 0 w).one ?_)
  exact bodyPost_ret (results_ref rfl rfl (setRow_heap _ _ _ _ _ _ HR.out) (cmd_size rfl)) rfl (parse_done HR.out HB.out rfl (cmd_nil _ _))

/-- The block where the result lies stands. -/
theorem TSt.rest {g X : Nat} {S : Src} {kv sv : Value} {cs z : Array Value} {r i a n : Nat} {bad b : Bool} {w1 W : World} {k : Nat} (h : TSt g X S kv r bad w1 cs sv n i a b W) (hR : w1.heap[k]? = some (.cells z 31 (0, 0)) ∧ k ≠ g ∧ k ≠ X) : W.heap[k]? = some (.cells z 31 (0, 0)) :=
  (h.kk.block k (Array.getElem?_eq_some_iff.1 hR.1).1 hR.2.1 hR.2.2).trans hR.1

set_option maxHeartbeats 64000000 in
set_option maxRecDepth 100000 in
theorem ref_parse (b o n c : Nat) (L : Nat → ByteArray) (w : World) (hb : b < w.heap.size) (hL : ∀ j, j < n → w.cell? ⟨b, o + j, none⟩ = some (.string (L j))) (hn : n ≤ 9223372036854775806) : Calls Tryz.prog 18 #[.slice (some ⟨b, o, none⟩) n c] w (ParseP w) := by
  have HR := Lib.hid (MapKept.heap_alloc w (.cells zeroCmd 31)).1
  have HB := Lib.hid ((Below.refl _ w).alloc (Nat.le_refl _) (.cells zeroCmd 31))
  by_cases hev : n % 2 = 0
  · have hev' : ((n : Int) % 2 == 0) = true := by simp; omega
    clear hev hL
    go_enter Tryz.func18, Tryz.ntmps18
    go_wp2_with (refine wpList_store_row rfl 31 _ _ rfl w.heap.size zeroCmd rfl rfl 31 zeroCmd HR.out (cmd_size rfl) rfl (cmd_nil 0 w).one ?_)
    exact bodyPost_ret (results_ref rfl rfl (setRow_heap _ _ _ _ _ _ HR.out) (cmd_size rfl)) rfl (parse_done HR.out HB.out rfl (cmd_nil _ _))
  have hev' : ((n : Int) % 2 == 0) = false := by simp; omega
  by_cases h9 : 9 < n
  · have h9' : decide ((9 : Int) < (n : Int)) = true := by simp; omega
    clear hev hL
    go_enter Tryz.func18, Tryz.ntmps18
    go_wp2_with (refine wpList_store_row rfl 31 _ _ rfl w.heap.size zeroCmd rfl rfl 31 zeroCmd HR.out (cmd_size rfl) rfl (cmd_nil 0 w).one ?_)
    exact bodyPost_ret (results_ref rfl rfl (setRow_heap _ _ _ _ _ _ HR.out) (cmd_size rfl)) rfl (parse_done HR.out HB.out rfl (cmd_nil _ _))
  have h9' : decide ((9 : Int) < (n : Int)) = false := by simp; omega
  have hn0 : 0 < n := by omega
  have HL := Lib.hid hL
  clear hev hL
  go_enter Tryz.func18, Tryz.ntmps18
  go_wp2_with fail
  refine gen_wp (Q := fun W : World => W.heap[w.heap.size]? = some (.cells zeroCmd 31 (0, 0)) ∧ Below w.heap.size w W ∧ W.heap.size = w.heap.size + 1) ⟨HR.out, HB.out, by simp⟩ ?_
  clear HR HB
  rintro W0 ⟨hR, hB, hs0⟩
  have HR := Lib.hid hR
  have HB := Lib.hid hB
  clear hR hB
  go_loop [4] (fun x => ∃ k : Nat, k ≤ n ∧ x = .int .i64 k ∧ ∀ j, j < k → (L j).size ≤ 2000) (fun x => n - (intOf x).toNat)
  case atStart => exact ⟨0, by omega, rfl, fun j hj => absurd hj (by omega)⟩
  case round =>
    obtain ⟨k, hk, rfl, hsz⟩ := hrel
    by_cases hlt : k < n
    · have hcell := (Below.cell HB.out (p := ⟨b, o + k, none⟩) hb).trans (HL.out k hlt)
      have Hsz := Lib.hid hsz
      clear hsz
      by_cases h2 : 2000 < (L k).size
      · have h2' : decide ((2000 : Int) < ((L k).size : Int)) = true := by simp; omega
        go_wp2_with (refine wpList_store_row rfl 31 _ _ rfl w.heap.size zeroCmd rfl rfl 31 zeroCmd HR.out (cmd_size rfl) rfl (cmd_nil 0 w).one ?_)
        exact bodyPost_ret (results_ref rfl rfl (setRow_heap _ _ _ _ _ _ HR.out) (cmd_size rfl)) rfl (parse_done HR.out HB.out rfl (cmd_nil _ _))
      · have h2' : decide ((2000 : Int) < ((L k).size : Int)) = false := by simp; omega
        go_wp2_with fail
        go_round
        case rel => exact ⟨k + 1, by omega, by go_num, fun j hj => by
          by_cases e : j = k
          · subst e; omega
          · exact Hsz.out j (by omega)⟩
        case measure => simp [intOf]; omega
    · have hkn : k = n := by omega
      subst hkn
      have hQ : (fun W : World => Cur (w.heap.size + 1) ⟨b, o, k, c, L⟩ W 0 0 false (.slice none 0 0) ∧ W.heap[w.heap.size + 2]? = some (.cells (cmd0 ⟨#[]⟩ 0 false) 31 (0, 0)) ∧ W.heap[w.heap.size]? = some (.cells zeroCmd 31 (0, 0)) ∧ Below w.heap.size w W ∧ W.heap.size = w.heap.size + 3)
          ((W0.alloc (.cells (curC ⟨b, o, k, c, L⟩ 0 0 false (.slice none 0 0)) 69)).alloc (.cells zeroCmd 31)) := by
        have hb3 : Below w.heap.size w ((W0.alloc (.cells (curC ⟨b, o, k, c, L⟩ 0 0 false (.slice none 0 0)) 69)).alloc (.cells zeroCmd 31)) := ((HB.out.alloc (by omega) _).alloc (by simp; omega) _)
        refine ⟨⟨?_, fun j hj => ?_, by show b ≠ _; omega, fun j hj => hsz j hj, by show k ≤ 9; omega, hn0, Nat.zero_le _⟩, ?_, ?_, hb3, by simp; omega⟩
        · refine (Below.heap_alloc _ _ _ (by simp; omega)).trans ?_
          have := (MapKept.heap_alloc W0 (.cells (curC ⟨b, o, k, c, L⟩ 0 0 false (.slice none 0 0)) 69)).1
          rwa [hs0] at this
        · exact (hb3.cell (p := ⟨b, o + j, none⟩) hb).trans (HL.out j hj)
        · have := (MapKept.heap_alloc (W0.alloc (.cells (curC ⟨b, o, k, c, L⟩ 0 0 false (.slice none 0 0)) 69)) (.cells zeroCmd 31)).1
          rwa [World.size_alloc, hs0] at this
        · exact (Below.heap_alloc _ _ _ (by simp; omega)).trans ((Below.heap_alloc _ _ _ (by omega)).trans HR.out)
      have HQ := Lib.hid hQ
      clear hQ hsz
      go_wp2_with fail
      refine gen_call (Q := fun W : World => Cur (w.heap.size + 1) ⟨b, o, k, c, L⟩ W 0 0 false (.slice none 0 0) ∧ W.heap[w.heap.size + 2]? = some (.cells (cmd0 ⟨#[]⟩ 0 false) 31 (0, 0)) ∧ W.heap[w.heap.size]? = some (.cells zeroCmd 31 (0, 0)) ∧ Below w.heap.size w W ∧ W.heap.size = w.heap.size + 3) HQ.out ?_
      rintro w1 ⟨hC1, hX1, hR1, hB1, hW1⟩
      have hS1 : ∃ S : Src, S.b < w.heap.size ∧ Cur (w.heap.size + 1) S w1 0 0 false (.slice none 0 0) := ⟨_, hb, hC1⟩
      obtain ⟨S, hSb, hC⟩ := hS1
      have hsg : S.b < w.heap.size + 1 := by omega
      have hXS : w.heap.size + 2 ≠ S.b := by omega
      have h1 := TSt.start hC hX1
      have H1 := Lib.hid h1
      have HB1 := Lib.hid hB1
      have HR1 := Lib.hid hR1
      have HW1 := Lib.hid hW1
      clear hC1 hC h1 hX1 hB1 hR1 hW1 HQ HL HB HR
      generalize left S 0 0 = r at *
      refine (tag24 (w.heap.size + 1) S 0 0 false _ w1 H1.out.cur).mono ?_
      rintro e w2 ⟨s2, rfl, hs2, hM⟩
      obtain ⟨i2, a2, b2, h2, _, _⟩ := H1.out.moved hM
      have x0 := cell_hp h2.hX (j := 0) (v := .string ⟨#[]⟩) rfl
      have y0 : w2.frozen? ⟨w.heap.size + 2, 0, none⟩ = false := Lib.frozen_of_heap h2.hX 0
      have h3 := h2.setX hXS 0 (.string s2) rfl (cs2 := cmd0 s2 0 false)
      clear h2 hM H1 hs2
      go_wp2_with fail
      clear x0 y0
      generalize w2.setCell ⟨w.heap.size + 2, 0, none⟩ (.string s2) = w3 at *
      have H3 := Lib.hid h3
      clear h3
      refine (eat_any (w.heap.size + 1) S i2 a2 b2 _ 32 w3 H3.out.cur).mono ?_
      rintro e w4 ⟨rfl, hM⟩
      obtain ⟨i4, a4, b4, h4, _, _⟩ := H3.out.eaten hM
      have H4 := Lib.hid h4
      clear h4 hM H3
      go_wp2_with fail
      refine (name24 (w.heap.size + 1) S i4 a4 b4 _ ⟨#[]⟩ w4 H4.out.cur (by decide)).mono ?_
      rintro e w5 ⟨s5, rfl, hs5, hM, hno⟩
      clear hs5 hno
      obtain ⟨i5, a5, b5, h5, _, _⟩ := H4.out.moved hM
      have H5 := Lib.hid h5
      clear h5 hM H4
      go_wp2_with fail
      refine (ops24 s5 w5).mono ?_
      rintro e w6 ⟨op6, rfl, hB6⟩
      have h6 := H5.out.below hB6
      have x1 := cell_hp h6.hX (j := 1) (v := .int .i64 0) rfl
      have y1 : w6.frozen? ⟨w.heap.size + 2, 1, none⟩ = false := Lib.frozen_of_heap h6.hX 1
      have h7 := h6.setX hXS 1 (.int .i64 op6) rfl (cs2 := cmd0 s2 op6 false)
      have x2 := cell_hp h7.hX (j := 1) (v := .int .i64 op6) rfl
      have H7 := Lib.hid h7
      clear h6 h7 hB6 H5
      by_cases t : (s5.toList == [117, 105, 100]) = true
      · go_wp2_with fail
        refine (eat_any (w.heap.size + 1) S i5 a5 b5 _ 32 _ H7.out.cur).mono ?_
        rintro e w8 ⟨rfl, hM⟩
        obtain ⟨i8, a8, b8, h8, _, _⟩ := H7.out.eaten hM
        have H8 := Lib.hid h8
        clear h8 hM H7 x1 y1 x2
        go_wp2_with fail
        refine (name24 (w.heap.size + 1) S i8 a8 b8 _ ⟨#[]⟩ w8 H8.out.cur (by decide)).mono ?_
        rintro e w9 ⟨s9, rfl, hs9, hM, hno⟩
        clear hs9 hno
        obtain ⟨i9, a9, b9, h9, _, _⟩ := H8.out.moved hM
        have H9 := Lib.hid h9
        clear h9 hM H8
        go_wp2_with fail
        refine (ops24 s9 w9).mono ?_
        rintro e w10 ⟨op, rfl, hB10⟩
        have h10 := H9.out.below hB10
        have x1 := cell_hp h10.hX (j := 1) (v := .int .i64 op6) rfl
        have y1 : w10.frozen? ⟨w.heap.size + 2, 1, none⟩ = false := Lib.frozen_of_heap h10.hX 1
        have h11 := h10.setX hXS 1 (.int .i64 op) rfl (cs2 := cmd0 s2 op false)
        have x2 := cell_hp h11.hX (j := 2) (v := .bool false) rfl
        have y2 : (w10.setCell ⟨w.heap.size + 2, 1, none⟩ (.int .i64 op)).frozen? ⟨w.heap.size + 2, 2, none⟩ = false := Lib.frozen_of_heap h11.hX 2
        have h12 := h11.setX hXS 2 (.bool true) rfl (cs2 := cmd0 s2 op true)
        have q1 := cell_hp h12.hX (j := 1) (v := .int .i64 op) rfl
        have H12 := Lib.hid h12
        clear h10 h11 h12 hB10 H9 t
        by_cases o18 : op < 18
        · have o18' : decide (op < 18) = true := by simpa using o18
          go_wp2_with fail
          refine (fail_any (w.heap.size + 1) S i9 a9 b9 _ _ _ H12.out.cur).mono ?_
          rintro e w20 ⟨rfl, hC, hK⟩
          obtain ⟨b20, h20⟩ := H12.out.failed hC hK
          have q2 := cell_hp h20.hX (j := 1) (v := .int .i64 op) rfl
          have H20 := Lib.hid h20
          clear h20 hC hK x1 y1 x2 y2 q1
          go_wp2_with fail
          refine (fail_any (w.heap.size + 1) S i9 a9 b20 _ _ _ H20.out.cur).mono ?_
          rintro e w30 ⟨rfl, hC, hK⟩
          obtain ⟨b30, h30⟩ := H20.out.failed hC hK
          have c3 := h30.cur.c3
          have H30 := Lib.hid h30
          clear h30 hC hK
          cases b30
          · go_wp2_with fail
            refine (takes24 (w.heap.size + 1) (w.heap.size + 1) (w.heap.size + 2) S hsg i9 a9 false _ _ true w30 H30.out.cur H30.out.hX hXS (by omega) (by omega)).mono ?_
            rintro e w31 ⟨rfl, cs, i31, a31, b31, kv31, h15, hX31, hCm, hC31, hB31⟩
            have c31 := hC31.c3
            have hB32 := HB1.out.trans ((H30.out.kk.below (show w.heap.size + 1 ≤ w.heap.size + 1 by omega) (by omega) (by rw [HW1.out]; omega)).mono (Nat.le_succ _))
            have hR31 := (hB31.block w.heap.size (by omega)).trans (H30.out.rest ⟨HR1.out, by omega, by omega⟩)
            have HR31 := Lib.hid hR31
            have HB31 := Lib.hid (hB32.trans (hB31.mono (Nat.le_succ _)))
            have HX31 := Lib.hid hX31
            have HC31 := Lib.hid hC31
            have HCm := Lib.hid (hCm.base (Nat.le_succ w.heap.size))
            clear hX31 hCm hC31 hB31 hB32 hR31 c3
            cases b31
            · go_wp2_with fail
              refine (cover_any (w.heap.size + 1) S i31 a31 false kv31 w31 HC31.out).mono ?_
              rintro e w32 ⟨v32, rfl, m32, rfl⟩
              have HB32 := Lib.hid (HB31.out.trans (show Below w.heap.size w31 (w31.drewN m32) from ⟨rfl, rfl, rfl, Nat.le_refl _, fun _ _ => rfl⟩))
              have HR32 : Hid ((w31.drewN m32).heap[w.heap.size]? = some (.cells zeroCmd 31 (0, 0))) := Lib.hid HR31.out
              have HX32 : Hid ((w31.drewN m32).heap[w.heap.size + 2]? = some (.cells cs 31 (0, 0))) := Lib.hid HX31.out
              have HCm2 := Lib.hid (HCm.out.below (show Below w31.heap.size w31 (w31.drewN m32) from ⟨rfl, rfl, rfl, Nat.le_refl _, fun _ _ => rfl⟩))
              have HC15 := Lib.hid h15
              clear h15
              cases v32
              · go_wp2_with (refine wpList_store_row rfl 31 _ _ rfl w.heap.size zeroCmd rfl rfl 31 zeroCmd HR32.out (cmd_size rfl) rfl (cmd_nil 0 w).one ?_)
                exact bodyPost_ret (results_ref rfl rfl (setRow_heap _ _ _ _ _ _ HR32.out) (cmd_size rfl)) rfl (parse_done HR32.out HB32.out rfl (cmd_nil _ _))
              · go_wp2_with (first
                  | (refine wpList_load_row rfl 31 _ rfl (w.heap.size + 2) rfl 31 cs (0, 0) _ HX32.out Tryz.underlying31 rfl (cmd_size HC15.out) ?_)
                  | (refine wpList_store_row rfl 31 _ _ rfl w.heap.size cs rfl rfl 31 zeroCmd HR32.out (cmd_size HC15.out) (by rw [HC15.out]; rfl) HCm2.out.one ?_))
                exact bodyPost_ret (results_ref rfl rfl (setRow_heap _ _ _ _ _ _ HR32.out) (cmd_size HC15.out)) rfl (parse_done HR32.out HB32.out HC15.out HCm2.out)
            · clear h15
              go_wp2_with (refine wpList_store_row rfl 31 _ _ rfl w.heap.size zeroCmd rfl rfl 31 zeroCmd HR31.out (cmd_size rfl) rfl (cmd_nil 0 w).one ?_)
              exact bodyPost_ret (results_ref rfl rfl (setRow_heap _ _ _ _ _ _ HR31.out) (cmd_size rfl)) rfl (parse_done HR31.out HB31.out rfl (cmd_nil _ _))
          · go_wp2_with (refine wpList_store_row rfl 31 _ _ rfl w.heap.size zeroCmd rfl rfl 31 zeroCmd (H30.out.rest ⟨HR1.out, by omega, by omega⟩) (cmd_size rfl) rfl (cmd_nil 0 w).one ?_)
            exact bodyPost_ret (results_ref rfl rfl (setRow_heap _ _ _ _ _ _ (H30.out.rest ⟨HR1.out, by omega, by omega⟩)) (cmd_size rfl)) rfl (parse_done (H30.out.rest ⟨HR1.out, by omega, by omega⟩) (HB1.out.trans (H30.out.kk.below (by omega) (by omega) (by rw [HW1.out]; omega))) rfl (cmd_nil _ _))
        · have o18' : decide (op < 18) = false := by simpa using o18
          go_wp2_with fail
          refine (fail_any (w.heap.size + 1) S i9 a9 b9 _ _ _ H12.out.cur).mono ?_
          rintro e w20 ⟨rfl, hC, hK⟩
          obtain ⟨b20, h20⟩ := H12.out.failed hC hK
          have q2 := cell_hp h20.hX (j := 1) (v := .int .i64 op) rfl
          have H20 := Lib.hid h20
          clear h20 hC hK x1 y1 x2 y2 q1
          go_wp2_with fail
          refine (fail_any (w.heap.size + 1) S i9 a9 b20 _ _ _ H20.out.cur).mono ?_
          rintro e w30 ⟨rfl, hC, hK⟩
          obtain ⟨b30, h30⟩ := H20.out.failed hC hK
          have c3 := h30.cur.c3
          have H30 := Lib.hid h30
          clear h30 hC hK
          cases b30
          · go_wp2_with fail
            refine (takes24 (w.heap.size + 1) (w.heap.size + 1) (w.heap.size + 2) S hsg i9 a9 false _ _ true w30 H30.out.cur H30.out.hX hXS (by omega) (by omega)).mono ?_
            rintro e w31 ⟨rfl, cs, i31, a31, b31, kv31, h15, hX31, hCm, hC31, hB31⟩
            have c31 := hC31.c3
            have hB32 := HB1.out.trans ((H30.out.kk.below (show w.heap.size + 1 ≤ w.heap.size + 1 by omega) (by omega) (by rw [HW1.out]; omega)).mono (Nat.le_succ _))
            have hR31 := (hB31.block w.heap.size (by omega)).trans (H30.out.rest ⟨HR1.out, by omega, by omega⟩)
            have HR31 := Lib.hid hR31
            have HB31 := Lib.hid (hB32.trans (hB31.mono (Nat.le_succ _)))
            have HX31 := Lib.hid hX31
            have HC31 := Lib.hid hC31
            have HCm := Lib.hid (hCm.base (Nat.le_succ w.heap.size))
            clear hX31 hCm hC31 hB31 hB32 hR31 c3
            cases b31
            · go_wp2_with fail
              refine (cover_any (w.heap.size + 1) S i31 a31 false kv31 w31 HC31.out).mono ?_
              rintro e w32 ⟨v32, rfl, m32, rfl⟩
              have HB32 := Lib.hid (HB31.out.trans (show Below w.heap.size w31 (w31.drewN m32) from ⟨rfl, rfl, rfl, Nat.le_refl _, fun _ _ => rfl⟩))
              have HR32 : Hid ((w31.drewN m32).heap[w.heap.size]? = some (.cells zeroCmd 31 (0, 0))) := Lib.hid HR31.out
              have HX32 : Hid ((w31.drewN m32).heap[w.heap.size + 2]? = some (.cells cs 31 (0, 0))) := Lib.hid HX31.out
              have HCm2 := Lib.hid (HCm.out.below (show Below w31.heap.size w31 (w31.drewN m32) from ⟨rfl, rfl, rfl, Nat.le_refl _, fun _ _ => rfl⟩))
              have HC15 := Lib.hid h15
              clear h15
              cases v32
              · go_wp2_with (refine wpList_store_row rfl 31 _ _ rfl w.heap.size zeroCmd rfl rfl 31 zeroCmd HR32.out (cmd_size rfl) rfl (cmd_nil 0 w).one ?_)
                exact bodyPost_ret (results_ref rfl rfl (setRow_heap _ _ _ _ _ _ HR32.out) (cmd_size rfl)) rfl (parse_done HR32.out HB32.out rfl (cmd_nil _ _))
              · go_wp2_with (first
                  | (refine wpList_load_row rfl 31 _ rfl (w.heap.size + 2) rfl 31 cs (0, 0) _ HX32.out Tryz.underlying31 rfl (cmd_size HC15.out) ?_)
                  | (refine wpList_store_row rfl 31 _ _ rfl w.heap.size cs rfl rfl 31 zeroCmd HR32.out (cmd_size HC15.out) (by rw [HC15.out]; rfl) HCm2.out.one ?_))
                exact bodyPost_ret (results_ref rfl rfl (setRow_heap _ _ _ _ _ _ HR32.out) (cmd_size HC15.out)) rfl (parse_done HR32.out HB32.out HC15.out HCm2.out)
            · clear h15
              go_wp2_with (refine wpList_store_row rfl 31 _ _ rfl w.heap.size zeroCmd rfl rfl 31 zeroCmd HR31.out (cmd_size rfl) rfl (cmd_nil 0 w).one ?_)
              exact bodyPost_ret (results_ref rfl rfl (setRow_heap _ _ _ _ _ _ HR31.out) (cmd_size rfl)) rfl (parse_done HR31.out HB31.out rfl (cmd_nil _ _))
          · go_wp2_with (refine wpList_store_row rfl 31 _ _ rfl w.heap.size zeroCmd rfl rfl 31 zeroCmd (H30.out.rest ⟨HR1.out, by omega, by omega⟩) (cmd_size rfl) rfl (cmd_nil 0 w).one ?_)
            exact bodyPost_ret (results_ref rfl rfl (setRow_heap _ _ _ _ _ _ (H30.out.rest ⟨HR1.out, by omega, by omega⟩)) (cmd_size rfl)) rfl (parse_done (H30.out.rest ⟨HR1.out, by omega, by omega⟩) (HB1.out.trans (H30.out.kk.below (by omega) (by omega) (by rw [HW1.out]; omega))) rfl (cmd_nil _ _))
      · rw [Bool.not_eq_true] at t
        go_wp2_with fail
        refine (fail_any (w.heap.size + 1) S i5 a5 b5 _ _ _ H7.out.cur).mono ?_
        rintro e w30 ⟨rfl, hC, hK⟩
        obtain ⟨b30, h30⟩ := H7.out.failed hC hK
        have c3 := h30.cur.c3
        have H30 := Lib.hid h30
        clear h30 hC hK
        cases b30
        · go_wp2_with fail
          refine (takes24 (w.heap.size + 1) (w.heap.size + 1) (w.heap.size + 2) S hsg i5 a5 false _ _ false w30 H30.out.cur H30.out.hX hXS (by omega) (by omega)).mono ?_
          rintro e w31 ⟨rfl, cs, i31, a31, b31, kv31, h15, hX31, hCm, hC31, hB31⟩
          have c31 := hC31.c3
          have hB32 := HB1.out.trans ((H30.out.kk.below (show w.heap.size + 1 ≤ w.heap.size + 1 by omega) (by omega) (by rw [HW1.out]; omega)).mono (Nat.le_succ _))
          have hR31 := (hB31.block w.heap.size (by omega)).trans (H30.out.rest ⟨HR1.out, by omega, by omega⟩)
          have HR31 := Lib.hid hR31
          have HB31 := Lib.hid (hB32.trans (hB31.mono (Nat.le_succ _)))
          have HX31 := Lib.hid hX31
          have HC31 := Lib.hid hC31
          have HCm := Lib.hid (hCm.base (Nat.le_succ w.heap.size))
          clear hX31 hCm hC31 hB31 hB32 hR31 c3
          cases b31
          · go_wp2_with fail
            refine (cover_any (w.heap.size + 1) S i31 a31 false kv31 w31 HC31.out).mono ?_
            rintro e w32 ⟨v32, rfl, m32, rfl⟩
            have HB32 := Lib.hid (HB31.out.trans (show Below w.heap.size w31 (w31.drewN m32) from ⟨rfl, rfl, rfl, Nat.le_refl _, fun _ _ => rfl⟩))
            have HR32 : Hid ((w31.drewN m32).heap[w.heap.size]? = some (.cells zeroCmd 31 (0, 0))) := Lib.hid HR31.out
            have HX32 : Hid ((w31.drewN m32).heap[w.heap.size + 2]? = some (.cells cs 31 (0, 0))) := Lib.hid HX31.out
            have HCm2 := Lib.hid (HCm.out.below (show Below w31.heap.size w31 (w31.drewN m32) from ⟨rfl, rfl, rfl, Nat.le_refl _, fun _ _ => rfl⟩))
            have HC15 := Lib.hid h15
            clear h15
            cases v32
            · go_wp2_with (refine wpList_store_row rfl 31 _ _ rfl w.heap.size zeroCmd rfl rfl 31 zeroCmd HR32.out (cmd_size rfl) rfl (cmd_nil 0 w).one ?_)
              exact bodyPost_ret (results_ref rfl rfl (setRow_heap _ _ _ _ _ _ HR32.out) (cmd_size rfl)) rfl (parse_done HR32.out HB32.out rfl (cmd_nil _ _))
            · go_wp2_with (first
                | (refine wpList_load_row rfl 31 _ rfl (w.heap.size + 2) rfl 31 cs (0, 0) _ HX32.out Tryz.underlying31 rfl (cmd_size HC15.out) ?_)
                | (refine wpList_store_row rfl 31 _ _ rfl w.heap.size cs rfl rfl 31 zeroCmd HR32.out (cmd_size HC15.out) (by rw [HC15.out]; rfl) HCm2.out.one ?_))
              exact bodyPost_ret (results_ref rfl rfl (setRow_heap _ _ _ _ _ _ HR32.out) (cmd_size HC15.out)) rfl (parse_done HR32.out HB32.out HC15.out HCm2.out)
          · clear h15
            go_wp2_with (refine wpList_store_row rfl 31 _ _ rfl w.heap.size zeroCmd rfl rfl 31 zeroCmd HR31.out (cmd_size rfl) rfl (cmd_nil 0 w).one ?_)
            exact bodyPost_ret (results_ref rfl rfl (setRow_heap _ _ _ _ _ _ HR31.out) (cmd_size rfl)) rfl (parse_done HR31.out HB31.out rfl (cmd_nil _ _))
        · go_wp2_with (refine wpList_store_row rfl 31 _ _ rfl w.heap.size zeroCmd rfl rfl 31 zeroCmd (H30.out.rest ⟨HR1.out, by omega, by omega⟩) (cmd_size rfl) rfl (cmd_nil 0 w).one ?_)
          exact bodyPost_ret (results_ref rfl rfl (setRow_heap _ _ _ _ _ _ (H30.out.rest ⟨HR1.out, by omega, by omega⟩)) (cmd_size rfl)) rfl (parse_done (H30.out.rest ⟨HR1.out, by omega, by omega⟩) (HB1.out.trans (H30.out.kk.below (by omega) (by omega) (by rw [HW1.out]; omega))) rfl (cmd_nil _ _))

end Go.Proofs.YtjamgkcmpcnfpaaGreatDoor

namespace Go.Proofs.YtjamgkcmpcnfpaaGreatDoor
open Go.RowKit

instance {α : Type} [Inhabited α] : Inhabited (RowD α) := ⟨⟨0, fun _ => default⟩⟩
instance : Inhabited ByteArray := ⟨⟨#[]⟩⟩
instance : Inhabited SecD := ⟨⟨default, 0, default, false, 0, 0⟩⟩
instance : Inhabited ItemD := ⟨⟨0, false, default⟩⟩
instance : Inhabited KeyD := ⟨⟨0, ⟨#[]⟩, ⟨#[]⟩, 0, default, 0, 0⟩⟩

theorem two_is {W : World} {x : List Value} (h : TwoInts x) : ∃ d, MTwo W x d := by
  obtain ⟨n, k, rfl⟩ := h
  exact ⟨(n, k), rfl⟩
theorem int_is {W : World} {x : List Value} (h : OneInt x) : ∃ d, MInt W x d := h
theorem str_is {W : World} {m : Nat} {x : List Value} (h : OneStr m x) : ∃ d, MStr W x d := by
  obtain ⟨s, rfl, _⟩ := h
  exact ⟨s, rfl⟩

theorem ItemOk.is {B : Nat} {W : World} {x : List Value} (h : ItemOk B W x) : ∃ d, IsItem W x d := by
  obtain ⟨kind, peek, sec, rfl, pv, nv, p, n, what, fr, m, cut, rfl, hp, hn, hP, hN⟩ := h
  obtain ⟨dp, h1⟩ := hP.is (M := MInt) (by omega) fun _ h => int_is h
  obtain ⟨dn, h2⟩ := hN.is (M := MStr) (by omega) fun _ h => str_is h
  exact ⟨⟨kind, peek, ⟨dp, what, dn, cut, fr, m⟩⟩, pv, nv, rfl, h1, h2⟩

theorem KeyOk.is {B : Nat} {W : World} {x : List Value} (h : KeyOk B W x) : ∃ d, IsKey W x d := by
  obtain ⟨op, nm, tx, n, sv, a, b, m, rfl, hm, hR⟩ := h
  obtain ⟨ds, h1⟩ := hR.is (M := MTwo) (by omega) fun _ h => two_is h
  exact ⟨⟨op, nm, tx, n, ds, a, b⟩, sv, rfl, h1⟩

theorem CmdOk.is {B : Nat} {W : World} {cs : Array Value} (h : CmdOk B W cs.toList) : ∃ d, IsCmd W cs d := by
  obtain ⟨tag, box, dest, body, op, mode, flags, date, num, uid, quiet, sv, iv, fv, kv, s, i, f, k, hx, hs, hi, hf, hk, hS, hI, hF, hK⟩ := h
  have e : cs = cmdT tag op uid box dest sv mode quiet flags date num body iv fv kv := by rw [← Array.toArray_toList (xs := cs), hx]
  subst e
  obtain ⟨d1, h1⟩ := hS.is (M := MTwo) (by omega) fun _ h => two_is h
  obtain ⟨d2, h2⟩ := hI.is (M := MInt) (by omega) fun _ h => int_is h
  obtain ⟨d3, h3⟩ := hF.is (M := IsItem) (by omega) fun _ h => h.is
  obtain ⟨d4, h4⟩ := hK.is (M := IsKey) (by omega) fun _ h => h.is
  exact ⟨⟨tag, op, uid, box, dest, d1, mode, quiet, flags, date, num, body, d2, d3, d4⟩, sv, iv, fv, kv, rfl, h1, h2, h3, h4⟩

/-- The parts of a line, as they are handed in. -/
def PartsV (W : World) (v : Value) : Prop :=
  v = .slice none 0 0 ∨ ∃ (b o n c : Nat) (L : Nat → ByteArray), v = .slice (some ⟨b, o, none⟩) n c ∧ b < W.heap.size ∧ n ≤ 9223372036854775806 ∧ ∀ j, j < n → W.cell? ⟨b, o + j, none⟩ = some (.string (L j))

theorem PartsV.below {W W' : World} {v : Value} (h : PartsV W v) (hb : Below W.heap.size W W') : PartsV W' v := by
  rcases h with rfl | ⟨b, o, n, c, L, rfl, hlt, hn, hc⟩
  · exact .inl rfl
  · exact .inr ⟨b, o, n, c, L, rfl, Nat.lt_of_lt_of_le hlt hb.size, hn, fun j hj => (hb.cell (p := ⟨b, o + j, none⟩) hlt).trans (hc j hj)⟩

theorem parse_any (w : World) (v : Value) (h : PartsV w v) : Calls Tryz.prog 18 #[v] w (ParseP w) := by
  rcases h with rfl | ⟨b, o, n, c, L, rfl, hlt, hn, hc⟩
  · exact ref_parse_nil w
  · exact ref_parse b o n c L w hlt hc hn

/-- A truth value is returned, the world as it was. -/
def SomeBool (w : World) (e : Ending) (w' : World) : Prop := ∃ r : Bool, e = .returned (.bool r) ∧ w = w'

theorem great_nil (w : World) : Calls Tryz.prog 9 #[.slice none 0 0] w (SomeBool w) := by
  go_enter Tryz.func9, Tryz.ntmps9
  go_wp2_with fail
  go_loop [3, 4] (fun n i => i = .int .i64 0 ∧ n = .int .i64 0) (fun _ _ => 0)
  case atStart => exact ⟨rfl, rfl⟩
  case round =>
    obtain ⟨rfl, rfl⟩ := hrel
    go_wp2_with fail
    go_ret
    exact ⟨_, rfl, rfl⟩

set_option maxHeartbeats 4000000 in
theorem great_some (b o n c : Nat) (L : Nat → ByteArray) (w : World) (hn : n ≤ 9223372036854775806) (hc : ∀ j, j < n → w.cell? ⟨b, o + j, none⟩ = some (.string (L j))) : Calls Tryz.prog 9 #[.slice (some ⟨b, o, none⟩) n c] w (SomeBool w) := by
  have HC := Lib.hid hc
  clear hc
  go_enter Tryz.func9, Tryz.ntmps9
  go_wp2_with fail
  go_loop [3, 4] (fun x i => ∃ (k : Nat) (m : Int), k ≤ n ∧ i = .int .i64 k ∧ x = .int .i64 m) (fun _ i => n - (intOf i).toNat)
  case atStart => exact ⟨0, n, by omega, rfl, rfl⟩
  case round =>
    obtain ⟨k, m, hk, rfl, rfl⟩ := hrel
    by_cases hlt : k < n
    · have hcell := HC.out k hlt
      by_cases hm : m ≤ 6000
      · have hm' : decide (m ≤ 6000) = true := by simpa using hm
        clear hm
        go_wp2_with fail
        go_round
        case rel => exact ⟨k + 1, _, by omega, by go_num, rfl⟩
        case measure => simp [intOf]; omega
      · have hm' : decide (m ≤ 6000) = false := by simpa using hm
        go_wp2_with fail
        go_ret
        exact ⟨_, rfl, rfl⟩
    · go_wp2_with fail
      go_ret
      exact ⟨_, rfl, rfl⟩

theorem great_any (w : World) (v : Value) (h : PartsV w v) : Calls Tryz.prog 9 #[v] w (SomeBool w) := by
  rcases h with rfl | ⟨b, o, n, c, L, rfl, hlt, hn, hc⟩
  · exact great_nil w
  · exact great_some b o n c L w hn hc

end Go.Proofs.YtjamgkcmpcnfpaaGreatDoor
