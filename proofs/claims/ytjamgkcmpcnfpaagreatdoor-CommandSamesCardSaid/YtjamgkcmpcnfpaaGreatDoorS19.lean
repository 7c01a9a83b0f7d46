/-
  The cursor's 'items'.
  A command's block, on the way of 'takes' and what it calls.
-/
import Derived.Test.YtjamgkcmpcnfpaaGreatDoorS18
set_option linter.unusedVariables false
set_option linter.unusedSimpArgs false

namespace Go.Proofs.YtjamgkcmpcnfpaaGreatDoor
open Go.RowKit

/-- The world under a letter, ahead of a call. -/
theorem gen_call {Q : World → Prop} {P : Program} {f : FuncId} {args : Array Value} {R : Ending → World → Prop} {W : World} (h : Q W) (k : ∀ W1, Q W1 → Calls P f args W1 R) : Calls P f args W R := k W h

theorem info59 : (Tryz.prog.info? 59).map (fun i => (i.zero, i.size, i.bytes)) = some (some (.agg itZ), 8, 96) := by kernel_rfl

/-- A new cursor's cells. -/
abbrev curZ : Array Value := #[.slice none 0 0, .int .i64 0, .int .i64 0, .bool false, .slice none 0 0]

theorem curC_size (S : Src) (i a : Nat) (b : Bool) (kv : Value) : (Tryz.prog.info? 69).map (·.size) = some (curC S i a b kv).size := by
  rw [show (curC S i a b kv).size = 5 from rfl]; kernel_rfl

theorem curC_one (S : Src) (i a : Nat) (b : Bool) (A : Option Addr) (n C : Nat) : (curC S i a b (.slice A n C)).all (·.oneCell') = true := by simp [curC, Value.oneCell']

theorem SecOk.base {B B' : Nat} {W : World} {x : List Value} (h : SecOk B W x) (hB : B' ≤ B) : SecOk B' W x := by
  obtain ⟨pv, nv, p, n, what, fr, m, cut, rfl, hp, hn, hP, hN⟩ := h
  exact ⟨pv, nv, p, n, what, fr, m, cut, rfl, hp, hn, hP.base hB, hN.base hB⟩

theorem ItemOk.base {B B' : Nat} {W : World} {x : List Value} (h : ItemOk B W x) (hB : B' ≤ B) : ItemOk B' W x := by
  obtain ⟨kind, peek, sec, rfl, hS⟩ := h
  exact ⟨kind, peek, sec, rfl, hS.base hB⟩

/-- Where a cursor is put back to. -/
theorem Cur.restore {g : Nat} {S : Src} {w w' : World} {i a i2 a2 : Nat} {b b2 : Bool} {kv kv2 : Value} (h0 : Cur g S w i a b kv) (h : Cur g S w' i2 a2 b2 kv2) : Cur g S (w'.setRow g (curC S i a b kv)) i a b kv :=
  ⟨setRow_heap _ _ _ _ _ _ h.hp, fun j hj => (World.cell?_of_block (w := w') (a := ⟨S.b, S.o + j, none⟩) (setRow_other _ _ _ _ h.hg)).trans (h.src j hj), h.hg, h.sz, h.hn, h0.hi, h0.ha⟩

theorem Kept.setRowg {g : Nat} {a w : World} (h : Kept g a w) (cs : Array Value) : Kept g a (w.setRow g cs) :=
  ⟨h.os, h.tape, h.output, by simpa [World.setRow] using h.size, fun k hk hg => (setRow_other _ _ _ _ hg).trans (h.block k hk hg)⟩

/-- A copy of the cursor was made. -/
def Copied (g : Nat) (S : Src) (i a : Nat) (b : Bool) (kv : Value) (w V : World) : Prop :=
  Cur g S V i a b kv ∧ Kept g w V ∧ V.heap[w.heap.size]? = some (.cells (curC S i a b kv) 69 (0, 0))

theorem copied {g : Nat} {S : Src} {i a : Nat} {b : Bool} {kv : Value} {w : World} (h : Cur g S w i a b kv) : Copied g S i a b kv w ((w.alloc (.cells curZ 69)).setRow w.heap.size (curC S i a b kv)) := by
  have o : ∀ k, k < w.heap.size → ((w.alloc (.cells curZ 69)).setRow w.heap.size (curC S i a b kv)).heap[k]? = w.heap[k]? := fun k hk => (setRow_other _ _ _ _ (by omega)).trans (Below.heap_alloc _ _ _ hk)
  exact ⟨h.of_blocks (o g h.lt) (o S.b h.slt), ⟨rfl, rfl, rfl, by simp [World.setRow], fun k hk _ => o k hk⟩, setRow_heap _ _ _ _ _ _ (MapKept.heap_alloc w _).1⟩

/-- Items are returned; the cursor moved. -/
def ItemsP (g : Nat) (S : Src) (kv : Value) (r : Nat) (bad : Bool) (w : World) (e : Ending) (W : World) : Prop :=
  ∃ (A : Option Addr) (n C : Nat), e = .returned (.slice A n C) ∧ n ≤ 11 ∧ Rowed w.heap.size 59 8 (ItemOk w.heap.size W) (.slice A n C) n W ∧ Moves g S kv r bad w W

/-- What holds ahead of a round. -/
def ItemsR (g : Nat) (S : Src) (kv : Value) (r : Nat) (bad : Bool) (w : World) (v : Value) (W : World) : Prop :=
  ∃ (i a : Nat) (b : Bool) (k : Nat), Cur g S W i a b kv ∧ Rowed w.heap.size 59 8 (ItemOk w.heap.size W) v k W ∧ k ≤ 11 ∧ (b = false → k ≤ 10) ∧ Kept g w W ∧ left S i a ≤ r ∧ (bad = true → b = true)

theorem row_one (B : Nat) (w : World) (x : List Value) (hx : x.length = 8) (hO : ItemOk B w x) (hB : B ≤ w.heap.size) : Rowed B 59 8 (ItemOk B (w.alloc (.cells x.toArray 59))) (.slice (some ⟨w.heap.size, 0, none⟩) 1 1) 1 (w.alloc (.cells x.toArray 59)) :=
  ⟨[x], rfl, (fun y hy => by rw [List.mem_singleton.1 hy]; exact ⟨hx, hO.typed (Typed.alloc _ _) (Typed.alloc _ _)⟩), by simp [hx], .inr ⟨w.heap.size, 1, x.toArray, rfl, hB, (MapKept.heap_alloc w _).1, Nat.le_refl _, by unfold maxLen; omega, by simp [hx], by simp [← hx]⟩⟩

/-- What an append to the items leaves. -/
theorem items_grown {g : Nat} {S : Src} {kv v v' : Value} {i a k : Nat} {b : Bool} {w W W2 : World} (hC : Cur g S W i a b kv) (hSw : S.b < w.heap.size) (hR : Rowed w.heap.size 59 8 (ItemOk w.heap.size W) v k W) (hK : Kept g w W)
    (hR2 : Rowed w.heap.size 59 8 (ItemOk w.heap.size W) v' (k + 1) W2) (hgr : W.grownBy W2 v.ownBlock) : Cur g S W2 i a b kv ∧ Rowed w.heap.size 59 8 (ItemOk w.heap.size W2) v' (k + 1) W2 ∧ Kept g w W2 := by
  have own : ∀ j, v.ownBlock = some j → ∃ (cs : Array Value) (fr : Nat × Nat), W.heap[j]? = some (.cells cs 59 fr) := fun j hj => hR.type_ hj
  have typ : ∀ e : TypeId, e ≠ 59 → Typed e W W2 := fun e he => Typed.grown hgr fun j hj => by
    obtain ⟨cs, fr, hh⟩ := own j hj
    exact ⟨cs, fr, 59, hh, fun e1 => he e1.symm⟩
  have low : ∀ j, j < w.heap.size → W2.heap[j]? = W.heap[j]? := fun j hj => hgr.block j (Nat.lt_of_lt_of_le hj hK.size) fun e => by
    have := (hR.lt j e.symm).1
    omega
  refine ⟨hC.of_blocks (typ 69 (by decide) _ _ _ hC.hp) (low _ hSw), hR2.mono fun x _ hx => hx.typed (typ 3 (by decide)) (typ 9 (by decide)), ?_⟩
  exact ⟨hgr.os.trans hK.os, hgr.tape.trans hK.tape, hgr.output.trans hK.output, Nat.le_trans hK.size hgr.size, fun j hj hg => (low j hj).trans (hK.block j hj hg)⟩

theorem items_kept {g : Nat} {S : Src} {kv v : Value} {i a k : Nat} {b : Bool} {B : Nat} {W W2 : World} (hR : Rowed B 59 8 (ItemOk B W) v k W) (hC : Cur g S W i a b kv) (hK : Kept g W W2) : Rowed B 59 8 (ItemOk B W2) v k W2 :=
  hR.items (hK.typed hC.hp (by decide)) (hK.typed hC.hp (by decide)) (hK.typed hC.hp (by decide))

set_option maxHeartbeats 16000000 in
set_option maxRecDepth 100000 in
theorem items24 (g : Nat) (S : Src) (i a : Nat) (bad : Bool) (kA : Option Addr) (kN kC : Nat) (w : World) (h : Cur g S w i a bad (.slice kA kN kC)) : Calls Tryz.prog 71 #[CC g] w (ItemsP g S (.slice kA kN kC) (left S i a) bad w) := by
  obtain ⟨i0, hi, hz0, hz1, hz2⟩ := info_parts info59
  have hgw : g < w.heap.size := h.lt
  have hSw : S.b < w.heap.size := h.slt
  have hI := Lib.hid (if1_any g S i a bad _ 40 w h)
  clear h
  generalize left S i a = r at *
  go_enter Tryz.func71, Tryz.ntmps71
  go_wp2_with fail
  refine hI.out.mono ?_
  rintro e w1 ⟨v1, rfl, ⟨i1, a1, b1, hC1, hK1, hl1, hb1⟩, hno⟩
  clear hno hI
  have HC1 := Lib.hid hC1
  have HK1 := Lib.hid hK1
  have HB1 := Lib.hid hb1
  clear hC1 hK1 hb1
  cases v1
  · go_wp2_with (first
      | (refine wpList_load_row rfl 69 _ rfl g rfl 69 _ (0, 0) _ HC1.out.hp Tryz.underlying69 rfl (curC_size _ _ _ _ _) ?_)
      | (refine wpList_store_row rfl 69 _ _ rfl w1.heap.size _ rfl rfl 69 curZ (MapKept.heap_alloc w1 _).1 (curC_size _ _ _ _ _) rfl (curC_one _ _ _ _ _ _ _) ?_))
    refine gen_call (Q := Copied g S i1 a1 b1 (.slice kA kN kC) w1) (copied HC1.out) ?_
    rintro w2 ⟨hC2, hK2, hV2⟩
    have hxg : w1.heap.size ≠ g := by have := HC1.out.lt; omega
    refine (name24 g S i1 a1 b1 _ ⟨#[]⟩ w2 hC2 (by decide)).mono ?_
    rintro e w3 ⟨s, rfl, hs, ⟨i3, a3, b3, hC3, hK3, hl3, hb3⟩, hno⟩
    clear hno
    have hV3 := (hK3.block _ (Array.getElem?_eq_some_iff.1 hV2).1 hxg).trans hV2
    have HC3 := Lib.hid hC3
    have HK3 := Lib.hid (HK1.out.trans (hK2.trans hK3))
    have HV3 := Lib.hid hV3
    clear hC2 hK2 hV2 hC3 hK3 hV3
    go_wp2_with fail
    refine (macro24 s w3).mono ?_
    rintro e w4 ⟨A, n, C, rfl, hn5, hR4, hB4⟩
    have HC4 := Lib.hid (HC3.out.step hB4)
    have HK4 := Lib.hid (HK3.out.andBelow hB4 HK3.out.size)
    have HV4 := Lib.hid ((hB4.block _ (Array.getElem?_eq_some_iff.1 HV3.out).1).trans HV3.out)
    have HR4 := Lib.hid ((hR4.mono fun x _ hx => hx.base HK3.out.size).base HK3.out.size)
    have HB3 := Lib.hid hb3
    clear hB4 hR4 hb3
    cases A
    · go_wp2_with (first
        | (refine wpList_load_row rfl 69 _ rfl w1.heap.size rfl 69 _ (0, 0) _ HV4.out Tryz.underlying69 rfl (curC_size _ _ _ _ _) ?_)
        | (refine wpList_store_row rfl 69 _ _ rfl g _ rfl rfl 69 _ HC4.out.hp (curC_size _ _ _ _ _) rfl (curC_one _ _ _ _ _ _ _) ?_))
      have hC5 := HC1.out.restore HC4.out
      have hK5 := HK4.out.setRowg (curC S i1 a1 b1 (.slice kA kN kC))
      generalize w4.setRow g (curC S i1 a1 b1 (.slice kA kN kC)) = w5 at *
      have HC5 := Lib.hid hC5
      have HK5 := Lib.hid hK5
      clear hC5 hK5
      refine (item24 g S i1 a1 b1 _ w5 HC5.out).mono ?_
      rintro e w6 ⟨kind, peek, pv, what, nv, cut, fr, m, rfl, hO, ⟨i6, a6, b6, hC6, hK6, hl6, hb6⟩⟩
      obtain ⟨pA, pN, pC, rfl⟩ : ∃ A N C, pv = .slice A N C := by
        obtain ⟨_, _, _, e1, ⟨_, _, _, _, _, _, _, _, rfl, _, _, hP, _⟩⟩ := hO
        simp only [List.cons.injEq] at e1
        obtain ⟨_, _, rfl, _⟩ := e1
        rcases hP.slice with ⟨rfl, _⟩ | ⟨b, c, rfl⟩
        · exact ⟨_, _, _, rfl⟩
        · exact ⟨_, _, _, rfl⟩
      obtain ⟨nA, nN, nC, rfl⟩ : ∃ A N C, nv = .slice A N C := by
        obtain ⟨_, _, _, e1, ⟨_, _, _, _, _, _, _, _, rfl, _, _, _, hP⟩⟩ := hO
        simp only [List.cons.injEq] at e1
        obtain ⟨_, _, _, _, rfl, _⟩ := e1
        rcases hP.slice with ⟨rfl, _⟩ | ⟨b, c, rfl⟩
        · exact ⟨_, _, _, rfl⟩
        · exact ⟨_, _, _, rfl⟩
      have HO := Lib.hid (hO.base HK5.out.size)
      have HC6 := Lib.hid hC6
      have HK6 := Lib.hid (HK5.out.trans hK6)
      have HB6 := Lib.hid hb6
      clear hO hC6 hK6 hb6
      go_wp2_with fail
      go_ret
      exact ⟨_, 1, 1, rfl, by omega, row_one w.heap.size w6 _ rfl HO.out HK6.out.size, i6, a6, b6, HC6.out.alloc _, HK6.out.alloc _, by omega, fun h => HB6.out (HB1.out h)⟩
    · go_wp2_with fail
      go_ret
      exact ⟨_, n, C, rfl, by omega, HR4.out, i3, a3, b3, HC4.out, HK4.out, by omega, fun h => HB3.out (HB1.out h)⟩
  · go_wp2_with fail
    go_loopw [3] (fun v wr => ItemsR g S (.slice kA kN kC) r bad w v wr) (fun _ wr => togo g S wr)
    case atStart => exact ⟨i1, a1, b1, 0, HC1.out, Rowed.nil _, by omega, fun _ => by omega, HK1.out, hl1, HB1.out⟩
    case round =>
      obtain ⟨i2, a2, b2, k, hC2, hR2, hk11, hk, hK2, hl2, hb2⟩ := hrel
      have c3 := hC2.c3
      obtain ⟨A, C, rfl⟩ : ∃ A C, u3 = .slice A k C := by
        rcases hR2.slice with ⟨rfl, rfl⟩ | ⟨b, c, rfl⟩
        · exact ⟨_, _, rfl⟩
        · exact ⟨_, _, rfl⟩
      have HC2 := Lib.hid hC2
      have HR2 := Lib.hid hR2
      have HK2 := Lib.hid hK2
      have HB2 := Lib.hid hb2
      have Hk := Lib.hid hk
      clear hC2 hR2 hK2 hb2 hk
      cases b2
      · have hk10 := Hk.out rfl
        clear Hk
        go_wp2_with fail
        refine (item24 g S i2 a2 false _ wr HC2.out).mono ?_
        rintro e w3 ⟨kind, peek, pv, what, nv, cut, fr, m, rfl, hO, ⟨i3, a3, b3, hC3, hK3, hl3, hb3⟩⟩
        obtain ⟨pA, pN, pC, rfl⟩ : ∃ A N C, pv = .slice A N C := by
          obtain ⟨_, _, _, e1, ⟨_, _, _, _, _, _, _, _, rfl, _, _, hP, _⟩⟩ := hO
          simp only [List.cons.injEq] at e1
          obtain ⟨_, _, rfl, _⟩ := e1
          rcases hP.slice with ⟨rfl, _⟩ | ⟨b, c, rfl⟩
          · exact ⟨_, _, _, rfl⟩
          · exact ⟨_, _, _, rfl⟩
        obtain ⟨nA, nN, nC, rfl⟩ : ∃ A N C, nv = .slice A N C := by
          obtain ⟨_, _, _, e1, ⟨_, _, _, _, _, _, _, _, rfl, _, _, _, hP⟩⟩ := hO
          simp only [List.cons.injEq] at e1
          obtain ⟨_, _, _, _, rfl, _⟩ := e1
          rcases hP.slice with ⟨rfl, _⟩ | ⟨b, c, rfl⟩
          · exact ⟨_, _, _, rfl⟩
          · exact ⟨_, _, _, rfl⟩
        have hR3 := items_kept HR2.out HC2.out hK3
        have HO := Lib.hid ((hO.base HK2.out.size).typed (Typed.alloc w3 (.cells (itC kind peek (.slice pA pN pC) what (.slice nA nN nC) cut fr m) 59)) (Typed.alloc _ _))
        have HC3 := Lib.hid (hC3.alloc (.cells (itC kind peek (.slice pA pN pC) what (.slice nA nN nC) cut fr m) 59))
        have HK3 := Lib.hid ((HK2.out.trans hK3).alloc (.cells (itC kind peek (.slice pA pN pC) what (.slice nA nN nC) cut fr m) 59))
        have HR3 := Lib.hid (hR3.items (Typed.alloc w3 (.cells (itC kind peek (.slice pA pN pC) what (.slice nA nN nC) cut fr m) 59)) (Typed.alloc _ _) (Typed.alloc _ _))
        have HB3 := Lib.hid hb3
        clear hO hC3 hK3 hR3 hb3 c3
        go_wp2_with (at_builtin; refine wpList_append_row rfl _ _ 28 rfl w.heap.size 59 i0 (.agg itZ) 8 96 Tryz.underlying28 hi hz0 hz1 hz2 rfl (by decide) _ k (ItemOk w.heap.size _) rfl HR3.out w3.heap.size (itC kind peek (.slice pA pN pC) what (.slice nA nN nC) cut fr m).toList 59 (0, 0) rfl (MapKept.heap_alloc w3 _).1 rfl HO.out ?c1 ?c2 (by decide) ?c3 ?_)
        case c1 => simp [Value.oneCell']
        case c2 => omega
        case c3 => exact HK3.out.size
        intro v4 w4 hR4 hgr
        obtain ⟨hC4, hR5, hK4⟩ := items_grown HC3.out hSw HR3.out HK3.out hR4 hgr
        obtain ⟨A4, C4, rfl⟩ : ∃ A C, v4 = .slice A (k + 1) C := by
          rcases hR4.slice with ⟨rfl, h0⟩ | ⟨b, c, rfl⟩
          · exact absurd h0 (by omega)
          · exact ⟨_, _, rfl⟩
        have HC4 := Lib.hid hC4
        have HR4 := Lib.hid hR5
        have HK4 := Lib.hid hK4
        clear hC4 hR4 hR5 hK4 hgr
        go_wp2_with fail
        refine (fail_any g S i3 a3 b3 _ _ _ HC4.out).mono ?_
        rintro e w5 ⟨rfl, hC5, hK5⟩
        have hk5 : (b3 || decide ((10 : Int) < (k : Int) + 1)) = false → k + 1 ≤ 10 := fun hb => by
          have := (Bool.or_eq_false_iff.mp hb).2
          simp at this
          omega
        have hb5 : b3 = true → (b3 || decide ((10 : Int) < (k : Int) + 1)) = true := fun hb => by rw [hb]; rfl
        generalize (b3 || decide ((10 : Int) < (k : Int) + 1)) = b5 at *
        have HR5 := Lib.hid (items_kept HR4.out HC4.out hK5)
        have HC5 := Lib.hid hC5
        have HK5 := Lib.hid (HK4.out.trans hK5)
        have Hk5 := Lib.hid hk5
        have HB5 := Lib.hid hb5
        clear hC5 hK5 hk5 hb5
        go_wp2_with fail
        refine (if1_any g S i3 a3 b5 _ 41 w5 HC5.out).mono ?_
        rintro e w6 ⟨v6, rfl, ⟨i6, a6, b6, hC6, hK6, hl6, hb6⟩, hno⟩
        clear hno
        have HR6 := Lib.hid (items_kept HR5.out HC5.out hK6)
        have HC6 := Lib.hid hC6
        have HK6 := Lib.hid (HK5.out.trans hK6)
        have HB6 := Lib.hid hb6
        clear hC6 hK6 hb6
        cases v6
        · go_wp2_with fail
          refine (eat_any g S i6 a6 b6 _ 32 w6 HC6.out).mono ?_
          rintro e w7 ⟨rfl, i7, a7, b7, hC7, hK7, hl7, hlt7, hb7⟩
          have HR7 := Lib.hid (items_kept HR6.out HC6.out hK7)
          have HC7 := Lib.hid hC7
          have HK7 := Lib.hid (HK6.out.trans hK7)
          have HB7 := Lib.hid hb7
          clear hC7 hK7 hb7
          go_wp2_with fail
          go_roundw
          case rel => exact ⟨i7, a7, b7, k + 1, HC7.out, HR7.out, by omega, fun hb => Hk5.out (by cases b5; rfl; exact absurd (HB7.out (HB6.out rfl)) (by simp [hb])), HK7.out, by omega, fun h => absurd (HB2.out h) (by decide)⟩
          case measure => exact togo_lt HC2.out HC7.out (hlt7.imp id (by omega))
        · go_wp2_with fail
          go_ret
          exact ⟨_, k + 1, _, rfl, by omega, HR6.out, i6, a6, b6, HC6.out, HK6.out, by omega, fun h => absurd (HB2.out h) (by decide)⟩
      · go_wp2_with fail
        go_ret
        exact ⟨_, k, _, rfl, by omega, HR2.out, i2, a2, true, HC2.out, HK2.out, hl2, fun _ => rfl⟩

end Go.Proofs.YtjamgkcmpcnfpaaGreatDoor

namespace Go.Proofs.YtjamgkcmpcnfpaaGreatDoor
open Go.RowKit

/-- A command's cells, in order. -/
abbrev cmdT (tag : ByteArray) (op : Int) (uid : Bool) (box dest : ByteArray) (sv : Value) (mode : Int) (quiet : Bool) (flags date num : Int) (body : ByteArray) (iv fv kv : Value) : Array Value :=
  #[.string tag, .int .i64 op, .bool uid, .string box, .string dest, sv, .int .i64 mode, .bool quiet, .int .i64 flags, .int .i64 date, .int .i64 num, .string body, iv, fv, kv]

/-- A command of which the tag, the operation and the kind of numbers are known. -/
abbrev cmd0 (tag : ByteArray) (op : Int) (uid : Bool) : Array Value := cmdT tag op uid ⟨#[]⟩ ⟨#[]⟩ (.slice none 0 0) 0 false 0 0 0 ⟨#[]⟩ (.slice none 0 0) (.slice none 0 0) (.slice none 0 0)

/-- Where a method that fills a command stands, on the way from w. -/
structure TSt (g X : Nat) (S : Src) (kv : Value) (r : Nat) (bad : Bool) (w : World) (cs : Array Value) (sv : Value) (n i a : Nat) (b : Bool) (W : World) : Prop where
  cur : Cur g S W i a b kv
  hX : W.heap[X]? = some (.cells cs 31 (0, 0))
  row : Rowed w.heap.size 64 2 TwoInts sv n W
  n2001 : n ≤ 2001
  kk : Kept2 g X w W
  le : left S i a ≤ r
  bad : bad = true → b = true

section
variable {g X : Nat} {S : Src} {kv sv : Value} {cs cs2 : Array Value} {r i a i2 a2 n : Nat} {bad b b2 : Bool} {w W W2 : World}

theorem TSt.start (h : Cur g S w i a b kv) (hX : w.heap[X]? = some (.cells cs 31 (0, 0))) : TSt g X S kv (left S i a) b w cs (.slice none 0 0) 0 i a b w :=
  ⟨h, hX, Rowed.nil _, by omega, Kept2.refl g X w, Nat.le_refl _, id⟩

theorem TSt.xlt (h : TSt g X S kv r bad w cs sv n i a b W) : X < W.heap.size := (Array.getElem?_eq_some_iff.1 h.hX).1
theorem TSt.xg (h : TSt g X S kv r bad w cs sv n i a b W) : X ≠ g := h.cur.xg h.hX (by decide)

theorem TSt.kept (h : TSt g X S kv r bad w cs sv n i a b W) (hC : Cur g S W2 i2 a2 b2 kv) (hK : Kept g W W2) (hl : left S i2 a2 ≤ left S i a) (hb : b = true → b2 = true) : TSt g X S kv r bad w cs sv n i2 a2 b2 W2 :=
  ⟨hC, (hK.block X h.xlt h.xg).trans h.hX, h.row.typed (hK.typed h.cur.hp (by decide)), h.n2001, h.kk.trans (hK.two X), Nat.le_trans hl h.le, fun x => hb (h.bad x)⟩

theorem TSt.moved (h : TSt g X S kv r bad w cs sv n i a b W) (hM : Moves g S kv (left S i a) b W W2) : ∃ i2 a2 b2, TSt g X S kv r bad w cs sv n i2 a2 b2 W2 ∧ (b = true → b2 = true) ∧ left S i2 a2 ≤ left S i a := by
  obtain ⟨i2, a2, b2, hC, hK, hl, hb⟩ := hM
  exact ⟨i2, a2, b2, h.kept hC hK hl hb, hb, hl⟩

theorem TSt.eaten (h : TSt g X S kv r bad w cs sv n i a b W) (hM : Eats g S kv (left S i a) b W W2) : ∃ i2 a2 b2, TSt g X S kv r bad w cs sv n i2 a2 b2 W2 ∧ (b = true → b2 = true) ∧ (b2 = true ∨ left S i2 a2 < left S i a) := by
  obtain ⟨i2, a2, b2, hC, hK, hl, hlt, hb⟩ := hM
  exact ⟨i2, a2, b2, h.kept hC hK hl hb, hb, hlt⟩

theorem TSt.drewN (h : TSt g X S kv r bad w cs sv n i a b W) (m : Nat) : TSt g X S kv r bad w cs sv n i a b (W.drewN m) :=
  h.kept (h.cur.drewN m) ((Kept.refl g W).drewN m) (Nat.le_refl _) id

theorem TSt.drew (h : TSt g X S kv r bad w cs sv n i a b W) : TSt g X S kv r bad w cs sv n i a b W.drew :=
  h.kept h.cur.drew (Kept.refl g W).drew (Nat.le_refl _) id

theorem TSt.below (h : TSt g X S kv r bad w cs sv n i a b W) (hB : Below W.heap.size W W2) : TSt g X S kv r bad w cs sv n i a b W2 :=
  h.kept (h.cur.step hB) ((Kept.refl g W).andBelow hB (Nat.le_refl _)) (Nat.le_refl _) id

theorem TSt.failed {f : Bool} (h : TSt g X S kv r bad w cs sv n i a b W) (hC : Cur g S W2 i a (b || f) kv) (hK : Kept g W W2) : ∃ b2, TSt g X S kv r bad w cs sv n i a b2 W2 :=
  ⟨_, h.kept hC hK (Nat.le_refl _) (fun hb => by rw [hb]; rfl)⟩

/-- A store into the command's block. -/
theorem TSt.setX (h : TSt g X S kv r bad w cs sv n i a b W) (hXS : X ≠ S.b) (j : Nat) (u : Value) (hs : cs.setIfInBounds j u = cs2) : TSt g X S kv r bad w cs2 sv n i a b (W.setCell ⟨X, j, none⟩ u) :=
  ⟨h.cur.other (p := ⟨X, j, none⟩) h.xg hXS _, by rw [heap_set h.hX, hs], h.row.typed (Typed.set h.hX (by decide)), h.n2001, h.kk.setx j _, h.le, h.bad⟩

/-- A set is read. -/
theorem TSt.set {e : Ending} (h : TSt g X S kv r bad w cs sv n i a b W) (hM : SetMoves g S kv (left S i a) b W e W2) : ∃ (A : Option Addr) (m C i2 a2 : Nat) (b2 : Bool), e = .returned (.slice A m C) ∧ TSt g X S kv r bad w cs (.slice A m C) m i2 a2 b2 W2 := by
  obtain ⟨v, m, rfl, hm, hR, hM⟩ := hM
  obtain ⟨i2, a2, b2, h2, _⟩ := h.moved hM
  have hR' := hR.base h.kk.size
  rcases hR.slice with ⟨rfl, rfl⟩ | ⟨b, c, rfl⟩
  · exact ⟨_, _, _, i2, a2, b2, rfl, ⟨h2.cur, h2.hX, hR', hm, h2.kk, h2.le, h2.bad⟩⟩
  · exact ⟨_, _, _, i2, a2, b2, rfl, ⟨h2.cur, h2.hX, hR', hm, h2.kk, h2.le, h2.bad⟩⟩

end

/-- What a method that fills a command leaves. -/
def FillP (g X : Nat) (S : Src) (kv : Value) (r : Nat) (bad : Bool) (w : World) (Q : Array Value → Value → Prop) (e : Ending) (W : World) : Prop :=
  e = .returned (.tuple #[]) ∧ ∃ cs sv n i a b, TSt g X S kv r bad w cs sv n i a b W ∧ Q cs sv

end Go.Proofs.YtjamgkcmpcnfpaaGreatDoor
