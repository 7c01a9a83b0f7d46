/-
  The cursor's 'item'.
  The program's and the document's looks at two sections, two items, two keys.
-/
import Derived.Test.YtjamgkcmpcnfpaaGreatDoorS15
import Derived.Test.YtjamgkcmpcnfpaaGreatDoorS14
set_option linter.unusedVariables false
set_option linter.unusedSimpArgs false

namespace Go.Proofs.YtjamgkcmpcnfpaaGreatDoor
open Go.RowKit

/-- An item's cells, in order. -/
abbrev itC (kind : Int) (peek : Bool) (pv : Value) (what : Int) (nv : Value) (cut : Bool) (fr m : Int) : Array Value := #[.int .i64 kind, .bool peek, pv, .int .i64 what, nv, .bool cut, .int .i64 fr, .int .i64 m]
abbrev itN (kind : Int) (peek : Bool) (what : Int) : Array Value := itC kind peek (.slice none 0 0) what (.slice none 0 0) false 0 0
abbrev itZ : Array Value := itN 0 false 0

theorem itC_size (kind : Int) (peek : Bool) (pv : Value) (what : Int) (nv : Value) (cut : Bool) (fr m : Int) : (Tryz.prog.info? 59).map (·.size) = some (itC kind peek pv what nv cut fr m).size := by
  rw [show (itC kind peek pv what nv cut fr m).size = 8 from rfl]; kernel_rfl

theorem itN_ok (B : Nat) (W : World) (kind : Int) (peek : Bool) (what : Int) : ItemOk B W (itN kind peek what).toList :=
  ⟨kind, peek, _, rfl, _, _, 0, 0, what, 0, 0, false, rfl, by omega, by omega, Rowed.nil _, Rowed.nil _⟩

/-- An item is returned; the cursor moved. -/
def ItemP (g : Nat) (S : Src) (kv : Value) (r : Nat) (bad : Bool) (w : World) (e : Ending) (W : World) : Prop :=
  ∃ (kind : Int) (peek : Bool) (pv : Value) (what : Int) (nv : Value) (cut : Bool) (fr m : Int), e = .returned (.agg (itC kind peek pv what nv cut fr m)) ∧ ItemOk w.heap.size W (itC kind peek pv what nv cut fr m).toList ∧ Moves g S kv r bad w W

/-- Where 'item' stands, on the way from w. -/
structure ISt (g : Nat) (S : Src) (kv : Value) (r : Nat) (bad : Bool) (w : World) (i a : Nat) (b : Bool) (W : World) : Prop where
  cur : Cur g S W i a b kv
  hR : W.heap[w.heap.size]? = some (.cells itZ 59 (0, 0))
  kk : Kept g w W
  le : left S i a ≤ r
  bad : bad = true → b = true

section
variable {g : Nat} {S : Src} {kv : Value} {r i a i2 a2 : Nat} {bad b b2 : Bool} {w W W2 : World}

theorem ISt.kept (h : ISt g S kv r bad w i a b W) (hC : Cur g S W2 i2 a2 b2 kv) (hK : Kept g W W2) (hl : left S i2 a2 ≤ left S i a) (hb : b = true → b2 = true) : ISt g S kv r bad w i2 a2 b2 W2 :=
  ⟨hC, (hK.block _ (Array.getElem?_eq_some_iff.1 h.hR).1 (h.cur.xg h.hR (by decide))).trans h.hR, h.kk.trans hK, Nat.le_trans hl h.le, fun x => hb (h.bad x)⟩

theorem ISt.moved (h : ISt g S kv r bad w i a b W) (hM : Moves g S kv (left S i a) b W W2) : ∃ i2 a2 b2, ISt g S kv r bad w i2 a2 b2 W2 ∧ (b = true → b2 = true) := by
  obtain ⟨i2, a2, b2, hC, hK, hl, hb⟩ := hM
  exact ⟨i2, a2, b2, h.kept hC hK hl hb, hb⟩

/-- The item's cells are stored where the result lies. -/
theorem ISt.done {kind : Int} {peek : Bool} {pv : Value} {what : Int} {nv : Value} {cut : Bool} {fr m : Int} (h : ISt g S kv r bad w i a b W) (hgw : g < w.heap.size) (hSw : S.b < w.heap.size) (hO : ItemOk w.heap.size W (itC kind peek pv what nv cut fr m).toList) :
    ItemP g S kv r bad w (.returned (.agg (itC kind peek pv what nv cut fr m))) (W.setRow w.heap.size (itC kind peek pv what nv cut fr m)) := by
  have other : ∀ k, k ≠ w.heap.size → (W.setRow w.heap.size (itC kind peek pv what nv cut fr m)).heap[k]? = W.heap[k]? := fun k hk => setRow_other _ _ _ _ hk
  have typ : ∀ e : TypeId, e ≠ 59 → Typed e W (W.setRow w.heap.size (itC kind peek pv what nv cut fr m)) := fun e he k cs fr' hk => other k fun e1 => by
    rw [e1, h.hR] at hk
    injection hk with hk
    injection hk with _ hk
    exact he hk.symm
  refine ⟨kind, peek, pv, what, nv, cut, fr, m, rfl, hO.typed (typ 3 (by decide)) (typ 9 (by decide)), i, a, b, ?_, ?_, h.le, h.bad⟩
  · exact h.cur.of_blocks (other _ (by omega)) (other _ (by omega))
  · exact ⟨h.kk.os, h.kk.tape, h.kk.output, by simpa [World.setRow] using h.kk.size, fun k hk hg => (other k (by omega)).trans (h.kk.block k hk hg)⟩
end

set_option maxHeartbeats 16000000 in
set_option maxRecDepth 100000 in
theorem item24 (g : Nat) (S : Src) (i a : Nat) (bad : Bool) (kv : Value) (w : World) (h : Cur g S w i a bad kv) : Calls Tryz.prog 104 #[CC g] w (ItemP g S kv (left S i a) bad w) := by
  have hgw : g < w.heap.size := h.lt
  have hSw : S.b < w.heap.size := h.slt
  have h0 : ISt g S kv (left S i a) bad w i a bad (w.alloc (.cells itZ 59)) := ⟨h.alloc _, (MapKept.heap_alloc w _).1, (Kept.refl g w).alloc _, Nat.le_refl _, id⟩
  have H0 := Lib.hid h0
  generalize left S i a = r at H0 ⊢
  clear h0 h
  go_enter Tryz.func104, Tryz.ntmps104
  go_wp2_with fail
  refine (name24 g S i a bad kv ⟨#[]⟩ _ H0.out.cur (by decide)).mono ?_
  rintro e w1 ⟨s, rfl, hs, hM, _⟩
  obtain ⟨i1, a1, b1, h1, _⟩ := H0.out.moved hM
  have H1 := Lib.hid h1
  clear h1 hM H0
  by_cases t1 : (s.toList == [102, 108, 97, 103, 115]) = true
  · go_wp2_with (refine wpList_store_row rfl 59 _ _ rfl w.heap.size (itN 1 false 0) rfl rfl 59 itZ H1.out.hR (itC_size _ _ _ _ _ _ _ _) rfl (by simp [Value.oneCell']) ?_)
    refine bodyPost_ret (results_cell_row rfl _ _ w.heap.size 59 (itN 1 false 0) (0, 0) _ rfl (setRow_heap _ _ _ _ _ _ H1.out.hR) Tryz.underlying59 rfl (itC_size _ _ _ _ _ _ _ _)) rfl ?_
    exact H1.out.done hgw hSw (itN_ok _ _ _ _ _)
  rw [Bool.not_eq_true] at t1
  by_cases t2 : (s.toList == [105, 110, 116, 101, 114, 110, 97, 108, 100, 97, 116, 101]) = true
  · go_wp2_with (refine wpList_store_row rfl 59 _ _ rfl w.heap.size (itN 2 false 0) rfl rfl 59 itZ H1.out.hR (itC_size _ _ _ _ _ _ _ _) rfl (by simp [Value.oneCell']) ?_)
    refine bodyPost_ret (results_cell_row rfl _ _ w.heap.size 59 (itN 2 false 0) (0, 0) _ rfl (setRow_heap _ _ _ _ _ _ H1.out.hR) Tryz.underlying59 rfl (itC_size _ _ _ _ _ _ _ _)) rfl ?_
    exact H1.out.done hgw hSw (itN_ok _ _ _ _ _)
  rw [Bool.not_eq_true] at t2
  by_cases t3 : (s.toList == [114, 102, 99, 56, 50, 50, 46, 115, 105, 122, 101]) = true
  · go_wp2_with (refine wpList_store_row rfl 59 _ _ rfl w.heap.size (itN 3 false 0) rfl rfl 59 itZ H1.out.hR (itC_size _ _ _ _ _ _ _ _) rfl (by simp [Value.oneCell']) ?_)
    refine bodyPost_ret (results_cell_row rfl _ _ w.heap.size 59 (itN 3 false 0) (0, 0) _ rfl (setRow_heap _ _ _ _ _ _ H1.out.hR) Tryz.underlying59 rfl (itC_size _ _ _ _ _ _ _ _)) rfl ?_
    exact H1.out.done hgw hSw (itN_ok _ _ _ _ _)
  rw [Bool.not_eq_true] at t3
  by_cases t4 : (s.toList == [117, 105, 100]) = true
  · go_wp2_with (refine wpList_store_row rfl 59 _ _ rfl w.heap.size (itN 4 false 0) rfl rfl 59 itZ H1.out.hR (itC_size _ _ _ _ _ _ _ _) rfl (by simp [Value.oneCell']) ?_)
    refine bodyPost_ret (results_cell_row rfl _ _ w.heap.size 59 (itN 4 false 0) (0, 0) _ rfl (setRow_heap _ _ _ _ _ _ H1.out.hR) Tryz.underlying59 rfl (itC_size _ _ _ _ _ _ _ _)) rfl ?_
    exact H1.out.done hgw hSw (itN_ok _ _ _ _ _)
  rw [Bool.not_eq_true] at t4
  by_cases t5 : (s.toList == [101, 110, 118, 101, 108, 111, 112, 101]) = true
  · go_wp2_with (refine wpList_store_row rfl 59 _ _ rfl w.heap.size (itN 5 false 0) rfl rfl 59 itZ H1.out.hR (itC_size _ _ _ _ _ _ _ _) rfl (by simp [Value.oneCell']) ?_)
    refine bodyPost_ret (results_cell_row rfl _ _ w.heap.size 59 (itN 5 false 0) (0, 0) _ rfl (setRow_heap _ _ _ _ _ _ H1.out.hR) Tryz.underlying59 rfl (itC_size _ _ _ _ _ _ _ _)) rfl ?_
    exact H1.out.done hgw hSw (itN_ok _ _ _ _ _)
  rw [Bool.not_eq_true] at t5
  by_cases t6 : (s.toList == [98, 111, 100, 121, 115, 116, 114, 117, 99, 116, 117, 114, 101]) = true
  · go_wp2_with (refine wpList_store_row rfl 59 _ _ rfl w.heap.size (itN 6 false 0) rfl rfl 59 itZ H1.out.hR (itC_size _ _ _ _ _ _ _ _) rfl (by simp [Value.oneCell']) ?_)
    refine bodyPost_ret (results_cell_row rfl _ _ w.heap.size 59 (itN 6 false 0) (0, 0) _ rfl (setRow_heap _ _ _ _ _ _ H1.out.hR) Tryz.underlying59 rfl (itC_size _ _ _ _ _ _ _ _)) rfl ?_
    exact H1.out.done hgw hSw (itN_ok _ _ _ _ _)
  rw [Bool.not_eq_true] at t6
  by_cases t7 : (s.toList == [114, 102, 99, 56, 50, 50]) = true
  · go_wp2_with (refine wpList_store_row rfl 59 _ _ rfl w.heap.size (itN 7 false 0) rfl rfl 59 itZ H1.out.hR (itC_size _ _ _ _ _ _ _ _) rfl (by simp [Value.oneCell']) ?_)
    refine bodyPost_ret (results_cell_row rfl _ _ w.heap.size 59 (itN 7 false 0) (0, 0) _ rfl (setRow_heap _ _ _ _ _ _ H1.out.hR) Tryz.underlying59 rfl (itC_size _ _ _ _ _ _ _ _)) rfl ?_
    exact H1.out.done hgw hSw (itN_ok _ _ _ _ _)
  rw [Bool.not_eq_true] at t7
  by_cases t8 : (s.toList == [114, 102, 99, 56, 50, 50, 46, 104, 101, 97, 100, 101, 114]) = true
  · go_wp2_with (refine wpList_store_row rfl 59 _ _ rfl w.heap.size (itN 7 true 1) rfl rfl 59 itZ H1.out.hR (itC_size _ _ _ _ _ _ _ _) rfl (by simp [Value.oneCell']) ?_)
    refine bodyPost_ret (results_cell_row rfl _ _ w.heap.size 59 (itN 7 true 1) (0, 0) _ rfl (setRow_heap _ _ _ _ _ _ H1.out.hR) Tryz.underlying59 rfl (itC_size _ _ _ _ _ _ _ _)) rfl ?_
    exact H1.out.done hgw hSw (itN_ok _ _ _ _ _)
  rw [Bool.not_eq_true] at t8
  by_cases t9 : (s.toList == [114, 102, 99, 56, 50, 50, 46, 116, 101, 120, 116]) = true
  · go_wp2_with (refine wpList_store_row rfl 59 _ _ rfl w.heap.size (itN 7 false 2) rfl rfl 59 itZ H1.out.hR (itC_size _ _ _ _ _ _ _ _) rfl (by simp [Value.oneCell']) ?_)
    refine bodyPost_ret (results_cell_row rfl _ _ w.heap.size 59 (itN 7 false 2) (0, 0) _ rfl (setRow_heap _ _ _ _ _ _ H1.out.hR) Tryz.underlying59 rfl (itC_size _ _ _ _ _ _ _ _)) rfl ?_
    exact H1.out.done hgw hSw (itN_ok _ _ _ _ _)
  rw [Bool.not_eq_true] at t9
  by_cases t10 : (s.toList == [98, 111, 100, 121]) = true
  · have t11 : (s.toList == [98, 111, 100, 121, 46, 112, 101, 101, 107]) = false := by rw [eq_of_beq t10]; rfl
    go_wp2_with fail
    refine (if1_any g S i1 a1 b1 kv 91 w1 H1.out.cur).mono ?_
    rintro e w2 ⟨v2, rfl, hM, hno⟩
    clear hno
    obtain ⟨i2, a2, b2, h2, _⟩ := H1.out.moved hM
    have H2 := Lib.hid h2
    clear h2 hM
    cases v2
    · go_wp2_with fail
      refine (fail_any g S i2 a2 b2 _ kv _ H2.out.cur).mono ?_
      rintro e w3 ⟨rfl, hC, hK⟩
      have H3 := Lib.hid (H2.out.kept hC hK (Nat.le_refl _) (fun hb => by rw [hb]; rfl))
      clear hC hK
      go_wp2_with (refine wpList_store_row rfl 59 _ _ rfl w.heap.size (itN 6 false 0) rfl rfl 59 itZ H3.out.hR (itC_size _ _ _ _ _ _ _ _) rfl (by simp [Value.oneCell']) ?_)
      refine bodyPost_ret (results_cell_row rfl _ _ w.heap.size 59 (itN 6 false 0) (0, 0) _ rfl (setRow_heap _ _ _ _ _ _ H3.out.hR) Tryz.underlying59 rfl (itC_size _ _ _ _ _ _ _ _)) rfl ?_
      exact H3.out.done hgw hSw (itN_ok _ _ _ _ _)
    · go_wp2_with fail
      refine (section24 g S i2 a2 b2 kv w2 H2.out.cur).mono ?_
      rintro e w3 ⟨cs, rfl, _, hS, hM⟩
      obtain ⟨i3, a3, b3, h3, _⟩ := H2.out.moved hM
      have H3 := Lib.hid h3
      obtain ⟨pv, nv, p, n, what, fr, m, cut, hx, hp, hn, hP, hN⟩ := hS
      obtain rfl : cs = secC pv what nv cut fr m := by rw [← Array.toArray_toList (xs := cs), hx]
      obtain ⟨pA, pC, rfl⟩ : ∃ A C, pv = .slice A p C := by
        rcases hP.slice with ⟨rfl, rfl⟩ | ⟨b, c, rfl⟩
        · exact ⟨_, _, rfl⟩
        · exact ⟨_, _, rfl⟩
      obtain ⟨nA, nC, rfl⟩ : ∃ A C, nv = .slice A n C := by
        rcases hN.slice with ⟨rfl, rfl⟩ | ⟨b, c, rfl⟩
        · exact ⟨_, _, rfl⟩
        · exact ⟨_, _, rfl⟩
      have hO : ItemOk w.heap.size w3 (itC 7 false (.slice pA p pC) what (.slice nA n nC) cut fr m).toList := ⟨7, false, _, rfl, _, _, p, n, what, fr, m, cut, rfl, hp, hn, hP.base H2.out.kk.size, hN.base H2.out.kk.size⟩
      have HO := Lib.hid hO
      clear h3 hM hP hN hO hx
      go_wp2_with (refine wpList_store_row rfl 59 _ _ rfl w.heap.size (itC 7 false (.slice pA p pC) what (.slice nA n nC) cut fr m) rfl rfl 59 itZ H3.out.hR (itC_size _ _ _ _ _ _ _ _) rfl (by simp [Value.oneCell']) ?_)
      refine bodyPost_ret (results_cell_row rfl _ _ w.heap.size 59 (itC 7 false (.slice pA p pC) what (.slice nA n nC) cut fr m) (0, 0) _ rfl (setRow_heap _ _ _ _ _ _ H3.out.hR) Tryz.underlying59 rfl (itC_size _ _ _ _ _ _ _ _)) rfl ?_
      exact H3.out.done hgw hSw HO.out
  rw [Bool.not_eq_true] at t10
  by_cases t11 : (s.toList == [98, 111, 100, 121, 46, 112, 101, 101, 107]) = true
  · go_wp2_with fail
    refine (if1_any g S i1 a1 b1 kv 91 w1 H1.out.cur).mono ?_
    rintro e w2 ⟨v2, rfl, hM, hno⟩
    clear hno
    obtain ⟨i2, a2, b2, h2, _⟩ := H1.out.moved hM
    have H2 := Lib.hid h2
    clear h2 hM
    cases v2
    · go_wp2_with fail
      refine (fail_any g S i2 a2 b2 _ kv _ H2.out.cur).mono ?_
      rintro e w3 ⟨rfl, hC, hK⟩
      have H3 := Lib.hid (H2.out.kept hC hK (Nat.le_refl _) (fun hb => by rw [hb]; rfl))
      clear hC hK
      go_wp2_with (refine wpList_store_row rfl 59 _ _ rfl w.heap.size (itN 6 false 0) rfl rfl 59 itZ H3.out.hR (itC_size _ _ _ _ _ _ _ _) rfl (by simp [Value.oneCell']) ?_)
      refine bodyPost_ret (results_cell_row rfl _ _ w.heap.size 59 (itN 6 false 0) (0, 0) _ rfl (setRow_heap _ _ _ _ _ _ H3.out.hR) Tryz.underlying59 rfl (itC_size _ _ _ _ _ _ _ _)) rfl ?_
      exact H3.out.done hgw hSw (itN_ok _ _ _ _ _)
    · go_wp2_with fail
      refine (section24 g S i2 a2 b2 kv w2 H2.out.cur).mono ?_
      rintro e w3 ⟨cs, rfl, _, hS, hM⟩
      obtain ⟨i3, a3, b3, h3, _⟩ := H2.out.moved hM
      have H3 := Lib.hid h3
      obtain ⟨pv, nv, p, n, what, fr, m, cut, hx, hp, hn, hP, hN⟩ := hS
      obtain rfl : cs = secC pv what nv cut fr m := by rw [← Array.toArray_toList (xs := cs), hx]
      obtain ⟨pA, pC, rfl⟩ : ∃ A C, pv = .slice A p C := by
        rcases hP.slice with ⟨rfl, rfl⟩ | ⟨b, c, rfl⟩
        · exact ⟨_, _, rfl⟩
        · exact ⟨_, _, rfl⟩
      obtain ⟨nA, nC, rfl⟩ : ∃ A C, nv = .slice A n C := by
        rcases hN.slice with ⟨rfl, rfl⟩ | ⟨b, c, rfl⟩
        · exact ⟨_, _, rfl⟩
        · exact ⟨_, _, rfl⟩
      have hO : ItemOk w.heap.size w3 (itC 7 true (.slice pA p pC) what (.slice nA n nC) cut fr m).toList := ⟨7, true, _, rfl, _, _, p, n, what, fr, m, cut, rfl, hp, hn, hP.base H2.out.kk.size, hN.base H2.out.kk.size⟩
      have HO := Lib.hid hO
      clear h3 hM hP hN hO hx
      go_wp2_with (refine wpList_store_row rfl 59 _ _ rfl w.heap.size (itC 7 true (.slice pA p pC) what (.slice nA n nC) cut fr m) rfl rfl 59 itZ H3.out.hR (itC_size _ _ _ _ _ _ _ _) rfl (by simp [Value.oneCell']) ?_)
      refine bodyPost_ret (results_cell_row rfl _ _ w.heap.size 59 (itC 7 true (.slice pA p pC) what (.slice nA n nC) cut fr m) (0, 0) _ rfl (setRow_heap _ _ _ _ _ _ H3.out.hR) Tryz.underlying59 rfl (itC_size _ _ _ _ _ _ _ _)) rfl ?_
      exact H3.out.done hgw hSw HO.out
  rw [Bool.not_eq_true] at t11
  have c3 := H1.out.cur.c3
  have f3 := H1.out.cur.f3
  have H2 := Lib.hid (H1.out.kept (H1.out.cur.set3 true) ((Kept.refl g w1).setg 3 _) (Nat.le_refl _) (fun _ => rfl))
  go_wp2_with (refine wpList_store_row rfl 59 _ _ rfl w.heap.size (itN 0 false 0) rfl rfl 59 itZ H2.out.hR (itC_size _ _ _ _ _ _ _ _) rfl (by simp [Value.oneCell']) ?_)
  refine bodyPost_ret (results_cell_row rfl _ _ w.heap.size 59 (itN 0 false 0) (0, 0) _ rfl (setRow_heap _ _ _ _ _ _ H2.out.hR) Tryz.underlying59 rfl (itC_size _ _ _ _ _ _ _ _)) rfl ?_
  exact H2.out.done hgw hSw (itN_ok _ _ _ _ _)

end Go.Proofs.YtjamgkcmpcnfpaaGreatDoor

namespace Go.Proofs.YtjamgkcmpcnfpaaGreatDoor
open Go.RowKit

/-- What a section holds. -/
structure SecD where
  path : RowD Int
  what : Int
  names : RowD ByteArray
  cut : Bool
  fr : Int
  m : Int

def SecD.Eqv (a b : SecD) : Prop := RowD.Eqv Eq a.path b.path ∧ a.what = b.what ∧ RowD.Eqv Eq a.names b.names ∧ a.cut = b.cut ∧ a.fr = b.fr ∧ a.m = b.m

def IsSec (W : World) (cs : Array Value) (d : SecD) : Prop := ∃ pv nv, cs = secC pv d.what nv d.cut d.fr d.m ∧ IsRow W 1 MInt pv d.path ∧ IsRow W 1 MStr nv d.names

theorem IsSec.below {W W' : World} {cs : Array Value} {d : SecD} (h : IsSec W cs d) (hb : Below W.heap.size W W') : IsSec W' cs d := by
  obtain ⟨pv, nv, rfl, h1, h2⟩ := h
  exact ⟨pv, nv, rfl, h1.below hb fun _ _ h => h, h2.below hb fun _ _ h => h⟩

/-- What an item holds. -/
structure ItemD where
  kind : Int
  peek : Bool
  sec : SecD

def ItemD.Eqv (a b : ItemD) : Prop := a.kind = b.kind ∧ a.peek = b.peek ∧ SecD.Eqv a.sec b.sec

def IsItem (W : World) (x : List Value) (d : ItemD) : Prop := ∃ pv nv, x = (itC d.kind d.peek pv d.sec.what nv d.sec.cut d.sec.fr d.sec.m).toList ∧ IsRow W 1 MInt pv d.sec.path ∧ IsRow W 1 MStr nv d.sec.names

theorem IsItem.below {W W' : World} {x : List Value} {d : ItemD} (h : IsItem W x d) (hb : Below W.heap.size W W') : IsItem W' x d := by
  obtain ⟨pv, nv, rfl, h1, h2⟩ := h
  exact ⟨pv, nv, rfl, h1.below hb fun _ _ h => h, h2.below hb fun _ _ h => h⟩

/-- What a key holds. -/
structure KeyD where
  op : Int
  name : ByteArray
  text : ByteArray
  n : Int
  set : RowD (Int × Int)
  a : Int
  b : Int

def KeyD.Eqv (x y : KeyD) : Prop := x.op = y.op ∧ x.name = y.name ∧ x.text = y.text ∧ x.n = y.n ∧ RowD.Eqv Eq x.set y.set ∧ x.a = y.a ∧ x.b = y.b

abbrev keyV (op : Int) (nm tx : ByteArray) (n : Int) (sv : Value) (a b : Int) : Array Value := #[.int .i64 op, .string nm, .string tx, .int .i64 n, sv, .int .i64 a, .int .i64 b]

def IsKey (W : World) (x : List Value) (d : KeyD) : Prop := ∃ sv, x = (keyV d.op d.name d.text d.n sv d.a d.b).toList ∧ IsRow W 2 MTwo sv d.set

theorem IsKey.below {W W' : World} {x : List Value} {d : KeyD} (h : IsKey W x d) (hb : Below W.heap.size W W') : IsKey W' x d := by
  obtain ⟨sv, rfl, h1⟩ := h
  exact ⟨sv, rfl, h1.below hb fun _ _ h => h⟩

/-- Two structs were boxed. -/
theorem boxed (w : World) (C1 C2 : Array Value) (t : TypeId) : Below w.heap.size w ((w.alloc (.cells C1 t)).alloc (.cells C2 t)) ∧ ((w.alloc (.cells C1 t)).alloc (.cells C2 t)).heap[w.heap.size]? = some (.cells C1 t (0, 0)) ∧ ((w.alloc (.cells C1 t)).alloc (.cells C2 t)).heap[w.heap.size + 1]? = some (.cells C2 t (0, 0)) := by
  refine ⟨((Below.refl _ w).alloc (Nat.le_refl _) _).alloc (by simp) _, (Below.heap_alloc _ _ _ (by simp)).trans (MapKept.heap_alloc w _).1, ?_⟩
  have := (MapKept.heap_alloc (w.alloc (.cells C1 t)) (.cells C2 t)).1
  rwa [World.size_alloc] at this

theorem blk {w w' : World} {k : Nat} {o : Obj} (hb : Below w.heap.size w w') (h : w.heap[k]? = some o) : w'.heap[k]? = some o := (hb.block k (Array.getElem?_eq_some_iff.1 h).1).trans h

theorem IsRow.form {α : Type} {W : World} {sz : Nat} {M : World → List Value → α → Prop} {v : Value} {d : RowD α} (h : IsRow W sz M v d) : ∃ A C, v = .slice A d.n C := by
  obtain ⟨_, A, C, hv, _⟩ := h
  exact ⟨A, C, hv⟩

set_option maxHeartbeats 8000000 in
set_option maxRecDepth 100000 in
theorem same_42 (cs1 cs2 : Array Value) (d1 d2 : SecD) (w : World) (h1 : IsSec w cs1 d1) (h2 : IsSec w cs2 d2) : Calls Tryz.prog 42 #[.agg cs1, .agg cs2] w (EqP (SecD.Eqv d1 d2) w) := by
  obtain ⟨pv1, nv1, rfl, RP1, RN1⟩ := h1
  obtain ⟨pv2, nv2, rfl, RP2, RN2⟩ := h2
  obtain ⟨p1, wh1, n1, c1, f1, m1⟩ := d1
  obtain ⟨p2, wh2, n2, c2, f2, m2⟩ := d2
  simp only [] at RP1 RN1 RP2 RN2
  obtain ⟨pA1, pC1, rfl⟩ := RP1.form
  obtain ⟨pA2, pC2, rfl⟩ := RP2.form
  obtain ⟨nA1, nC1, rfl⟩ := RN1.form
  obtain ⟨nA2, nC2, rfl⟩ := RN2.form
  obtain ⟨hB0, X0, Y0⟩ := boxed w (secC (.slice pA1 p1.n pC1) wh1 (.slice nA1 n1.n nC1) c1 f1 m1) (secC (.slice pA2 p2.n pC2) wh2 (.slice nA2 n2.n nC2) c2 f2 m2) 57
  have RP10 := Lib.hid (RP1.below hB0 fun _ _ h => h)
  have RP20 := Lib.hid (RP2.below hB0 fun _ _ h => h)
  have RN10 := Lib.hid (RN1.below hB0 fun _ _ h => h)
  have RN20 := Lib.hid (RN2.below hB0 fun _ _ h => h)
  have HB0 := Lib.hid hB0
  have HX0 := Lib.hid X0
  have HY0 := Lib.hid Y0
  clear hB0 X0 Y0 RP1 RP2 RN1 RN2
  go_enter Tryz.func42, Tryz.ntmps42
  go_wp2_with fail
  refine (same_45 _ _ p1 p2 _ RP10.out RP20.out).mono ?_
  rintro e w1 ⟨r1, rfl, hr1, hb1⟩
  have HX1 := Lib.hid (blk hb1 HX0.out)
  have HY1 := Lib.hid (blk hb1 HY0.out)
  have HB1 := Lib.hid (HB0.out.trans (hb1.mono HB0.out.size))
  have HR1 := Lib.hid hr1
  have RN11 := Lib.hid (RN10.out.below hb1 fun _ _ h => h)
  have RN21 := Lib.hid (RN20.out.below hb1 fun _ _ h => h)
  clear hb1 hr1
  cases r1
  · go_wp2_with fail
    go_ret
    exact EqP.no (fun h => absurd (HR1.out.2 h.1) (by decide)) HB1.out
  by_cases e1 : wh1 = wh2
  rotate_left
  · have ne1 : (wh1 == wh2) = false := by simpa using e1
    have E1 := Lib.hid e1
    clear e1
    have p1x1 := cell_hp HX1.out (j := 1) (v := .int .i64 wh1) rfl
    have q1x1 := cell_hp HY1.out (j := 1) (v := .int .i64 wh2) rfl
    have p1x2 := cell_hp HX1.out (j := 2) (v := .slice nA1 n1.n nC1) rfl
    have q1x2 := cell_hp HY1.out (j := 2) (v := .slice nA2 n2.n nC2) rfl
    go_wp2_with fail
    go_ret
    exact EqP.no (fun h => E1.out h.2.1) HB1.out
  subst e1
  have p1x1 := cell_hp HX1.out (j := 1) (v := .int .i64 wh1) rfl
  have q1x1 := cell_hp HY1.out (j := 1) (v := .int .i64 wh1) rfl
  have p1x2 := cell_hp HX1.out (j := 2) (v := .slice nA1 n1.n nC1) rfl
  have q1x2 := cell_hp HY1.out (j := 2) (v := .slice nA2 n2.n nC2) rfl
  go_wp2_with fail
  refine (same_74 _ _ n1 n2 _ RN11.out RN21.out).mono ?_
  rintro e w2 ⟨r2, rfl, hr2, hb2⟩
  clear p1x1 q1x1 p1x2 q1x2
  have HX2 := Lib.hid (blk hb2 HX1.out)
  have HY2 := Lib.hid (blk hb2 HY1.out)
  have HB2 := Lib.hid (HB1.out.trans (hb2.mono HB1.out.size))
  have HR2 := Lib.hid hr2
  clear hb2 hr2
  cases r2
  · go_wp2_with fail
    go_ret
    exact EqP.no (fun h => absurd (HR2.out.2 h.2.2.1) (by decide)) HB2.out
  by_cases e3 : c1 = c2
  rotate_left
  · have ne3 : (c1 == c2) = false := by simpa using e3
    have E3 := Lib.hid e3
    clear e3
    have p2x3 := cell_hp HX2.out (j := 3) (v := .bool c1) rfl
    have q2x3 := cell_hp HY2.out (j := 3) (v := .bool c2) rfl
    have p2x4 := cell_hp HX2.out (j := 4) (v := .int .i64 f1) rfl
    have q2x4 := cell_hp HY2.out (j := 4) (v := .int .i64 f2) rfl
    have p2x5 := cell_hp HX2.out (j := 5) (v := .int .i64 m1) rfl
    have q2x5 := cell_hp HY2.out (j := 5) (v := .int .i64 m2) rfl
    go_wp2_with fail
    go_ret
    exact EqP.no (fun h => E3.out h.2.2.2.1) HB2.out
  subst e3
  by_cases e4 : f1 = f2
  rotate_left
  · have ne4 : (f1 == f2) = false := by simpa using e4
    have E4 := Lib.hid e4
    clear e4
    have p2x3 := cell_hp HX2.out (j := 3) (v := .bool c1) rfl
    have q2x3 := cell_hp HY2.out (j := 3) (v := .bool c1) rfl
    have p2x4 := cell_hp HX2.out (j := 4) (v := .int .i64 f1) rfl
    have q2x4 := cell_hp HY2.out (j := 4) (v := .int .i64 f2) rfl
    have p2x5 := cell_hp HX2.out (j := 5) (v := .int .i64 m1) rfl
    have q2x5 := cell_hp HY2.out (j := 5) (v := .int .i64 m2) rfl
    go_wp2_with fail
    go_ret
    exact EqP.no (fun h => E4.out h.2.2.2.2.1) HB2.out
  subst e4
  by_cases e5 : m1 = m2
  rotate_left
  · have ne5 : (m1 == m2) = false := by simpa using e5
    have E5 := Lib.hid e5
    clear e5
    have p2x3 := cell_hp HX2.out (j := 3) (v := .bool c1) rfl
    have q2x3 := cell_hp HY2.out (j := 3) (v := .bool c1) rfl
    have p2x4 := cell_hp HX2.out (j := 4) (v := .int .i64 f1) rfl
    have q2x4 := cell_hp HY2.out (j := 4) (v := .int .i64 f1) rfl
    have p2x5 := cell_hp HX2.out (j := 5) (v := .int .i64 m1) rfl
    have q2x5 := cell_hp HY2.out (j := 5) (v := .int .i64 m2) rfl
    go_wp2_with fail
    go_ret
    exact EqP.no (fun h => E5.out h.2.2.2.2.2) HB2.out
  subst e5
  have p2x3 := cell_hp HX2.out (j := 3) (v := .bool c1) rfl
  have q2x3 := cell_hp HY2.out (j := 3) (v := .bool c1) rfl
  have p2x4 := cell_hp HX2.out (j := 4) (v := .int .i64 f1) rfl
  have q2x4 := cell_hp HY2.out (j := 4) (v := .int .i64 f1) rfl
  have p2x5 := cell_hp HX2.out (j := 5) (v := .int .i64 m1) rfl
  have q2x5 := cell_hp HY2.out (j := 5) (v := .int .i64 m1) rfl
  go_wp2_with fail
  go_ret
  exact EqP.yes ⟨HR1.out.1 (by simp), rfl, HR2.out.1 (by simp), rfl, rfl, rfl⟩ HB2.out

set_option maxHeartbeats 8000000 in
set_option maxRecDepth 100000 in
theorem same_27 (cs1 cs2 : Array Value) (d1 d2 : SecD) (w : World) (h1 : IsSec w cs1 d1) (h2 : IsSec w cs2 d2) : Calls Tryz.prog 27 #[.agg cs1, .agg cs2] w (EqP (SecD.Eqv d1 d2) w) := by
  obtain ⟨pv1, nv1, rfl, RP1, RN1⟩ := h1
  obtain ⟨pv2, nv2, rfl, RP2, RN2⟩ := h2
  obtain ⟨p1, wh1, n1, c1, f1, m1⟩ := d1
  obtain ⟨p2, wh2, n2, c2, f2, m2⟩ := d2
  simp only [] at RP1 RN1 RP2 RN2
  obtain ⟨pA1, pC1, rfl⟩ := RP1.form
  obtain ⟨pA2, pC2, rfl⟩ := RP2.form
  obtain ⟨nA1, nC1, rfl⟩ := RN1.form
  obtain ⟨nA2, nC2, rfl⟩ := RN2.form
  obtain ⟨hB0, X0, Y0⟩ := boxed w (secC (.slice pA1 p1.n pC1) wh1 (.slice nA1 n1.n nC1) c1 f1 m1) (secC (.slice pA2 p2.n pC2) wh2 (.slice nA2 n2.n nC2) c2 f2 m2) 57
  have RP10 := Lib.hid (RP1.below hB0 fun _ _ h => h)
  have RP20 := Lib.hid (RP2.below hB0 fun _ _ h => h)
  have RN10 := Lib.hid (RN1.below hB0 fun _ _ h => h)
  have RN20 := Lib.hid (RN2.below hB0 fun _ _ h => h)
  have HB0 := Lib.hid hB0
  have HX0 := Lib.hid X0
  have HY0 := Lib.hid Y0
  clear hB0 X0 Y0 RP1 RP2 RN1 RN2
  go_enter Tryz.func27, Tryz.ntmps27
  go_wp2_with fail
  refine (same_25 _ _ p1 p2 _ RP10.out RP20.out).mono ?_
  rintro e w1 ⟨r1, rfl, hr1, hb1⟩
  have HX1 := Lib.hid (blk hb1 HX0.out)
  have HY1 := Lib.hid (blk hb1 HY0.out)
  have HB1 := Lib.hid (HB0.out.trans (hb1.mono HB0.out.size))
  have HR1 := Lib.hid hr1
  have RN11 := Lib.hid (RN10.out.below hb1 fun _ _ h => h)
  have RN21 := Lib.hid (RN20.out.below hb1 fun _ _ h => h)
  clear hb1 hr1
  cases r1
  · go_wp2_with fail
    go_ret
    exact EqP.no (fun h => absurd (HR1.out.2 h.1) (by decide)) HB1.out
  by_cases e1 : wh1 = wh2
  rotate_left
  · have ne1 : (wh1 == wh2) = false := by simpa using e1
    have E1 := Lib.hid e1
    clear e1
    have p1x1 := cell_hp HX1.out (j := 1) (v := .int .i64 wh1) rfl
    have q1x1 := cell_hp HY1.out (j := 1) (v := .int .i64 wh2) rfl
    have p1x2 := cell_hp HX1.out (j := 2) (v := .slice nA1 n1.n nC1) rfl
    have q1x2 := cell_hp HY1.out (j := 2) (v := .slice nA2 n2.n nC2) rfl
    go_wp2_with fail
    go_ret
    exact EqP.no (fun h => E1.out h.2.1) HB1.out
  subst e1
  have p1x1 := cell_hp HX1.out (j := 1) (v := .int .i64 wh1) rfl
  have q1x1 := cell_hp HY1.out (j := 1) (v := .int .i64 wh1) rfl
  have p1x2 := cell_hp HX1.out (j := 2) (v := .slice nA1 n1.n nC1) rfl
  have q1x2 := cell_hp HY1.out (j := 2) (v := .slice nA2 n2.n nC2) rfl
  go_wp2_with fail
  refine (same_54 _ _ n1 n2 _ RN11.out RN21.out).mono ?_
  rintro e w2 ⟨r2, rfl, hr2, hb2⟩
  clear p1x1 q1x1 p1x2 q1x2
  have HX2 := Lib.hid (blk hb2 HX1.out)
  have HY2 := Lib.hid (blk hb2 HY1.out)
  have HB2 := Lib.hid (HB1.out.trans (hb2.mono HB1.out.size))
  have HR2 := Lib.hid hr2
  clear hb2 hr2
  cases r2
  · go_wp2_with fail
    go_ret
    exact EqP.no (fun h => absurd (HR2.out.2 h.2.2.1) (by decide)) HB2.out
  by_cases e3 : c1 = c2
  rotate_left
  · have ne3 : (c1 == c2) = false := by simpa using e3
    have E3 := Lib.hid e3
    clear e3
    have p2x3 := cell_hp HX2.out (j := 3) (v := .bool c1) rfl
    have q2x3 := cell_hp HY2.out (j := 3) (v := .bool c2) rfl
    have p2x4 := cell_hp HX2.out (j := 4) (v := .int .i64 f1) rfl
    have q2x4 := cell_hp HY2.out (j := 4) (v := .int .i64 f2) rfl
    have p2x5 := cell_hp HX2.out (j := 5) (v := .int .i64 m1) rfl
    have q2x5 := cell_hp HY2.out (j := 5) (v := .int .i64 m2) rfl
    go_wp2_with fail
    go_ret
    exact EqP.no (fun h => E3.out h.2.2.2.1) HB2.out
  subst e3
  by_cases e4 : f1 = f2
  rotate_left
  · have ne4 : (f1 == f2) = false := by simpa using e4
    have E4 := Lib.hid e4
    clear e4
    have p2x3 := cell_hp HX2.out (j := 3) (v := .bool c1) rfl
    have q2x3 := cell_hp HY2.out (j := 3) (v := .bool c1) rfl
    have p2x4 := cell_hp HX2.out (j := 4) (v := .int .i64 f1) rfl
    have q2x4 := cell_hp HY2.out (j := 4) (v := .int .i64 f2) rfl
    have p2x5 := cell_hp HX2.out (j := 5) (v := .int .i64 m1) rfl
    have q2x5 := cell_hp HY2.out (j := 5) (v := .int .i64 m2) rfl
    go_wp2_with fail
    go_ret
    exact EqP.no (fun h => E4.out h.2.2.2.2.1) HB2.out
  subst e4
  by_cases e5 : m1 = m2
  rotate_left
  · have ne5 : (m1 == m2) = false := by simpa using e5
    have E5 := Lib.hid e5
    clear e5
    have p2x3 := cell_hp HX2.out (j := 3) (v := .bool c1) rfl
    have q2x3 := cell_hp HY2.out (j := 3) (v := .bool c1) rfl
    have p2x4 := cell_hp HX2.out (j := 4) (v := .int .i64 f1) rfl
    have q2x4 := cell_hp HY2.out (j := 4) (v := .int .i64 f1) rfl
    have p2x5 := cell_hp HX2.out (j := 5) (v := .int .i64 m1) rfl
    have q2x5 := cell_hp HY2.out (j := 5) (v := .int .i64 m2) rfl
    go_wp2_with fail
    go_ret
    exact EqP.no (fun h => E5.out h.2.2.2.2.2) HB2.out
  subst e5
  have p2x3 := cell_hp HX2.out (j := 3) (v := .bool c1) rfl
  have q2x3 := cell_hp HY2.out (j := 3) (v := .bool c1) rfl
  have p2x4 := cell_hp HX2.out (j := 4) (v := .int .i64 f1) rfl
  have q2x4 := cell_hp HY2.out (j := 4) (v := .int .i64 f1) rfl
  have p2x5 := cell_hp HX2.out (j := 5) (v := .int .i64 m1) rfl
  have q2x5 := cell_hp HY2.out (j := 5) (v := .int .i64 m1) rfl
  go_wp2_with fail
  go_ret
  exact EqP.yes ⟨HR1.out.1 (by simp), rfl, HR2.out.1 (by simp), rfl, rfl, rfl⟩ HB2.out

set_option maxHeartbeats 8000000 in
set_option maxRecDepth 100000 in
theorem same_41 (x1 x2 : List Value) (d1 d2 : ItemD) (w : World) (h1 : IsItem w x1 d1) (h2 : IsItem w x2 d2) : Calls Tryz.prog 41 #[.agg x1.toArray, .agg x2.toArray] w (EqP (ItemD.Eqv d1 d2) w) := by
  obtain ⟨pv1, nv1, rfl, RP1, RN1⟩ := h1
  obtain ⟨pv2, nv2, rfl, RP2, RN2⟩ := h2
  obtain ⟨k1, q1, ⟨p1, wh1, n1, c1, f1, m1⟩⟩ := d1
  obtain ⟨k2, q2, ⟨p2, wh2, n2, c2, f2, m2⟩⟩ := d2
  simp only [] at RP1 RN1 RP2 RN2
  obtain ⟨pA1, pC1, rfl⟩ := RP1.form
  obtain ⟨pA2, pC2, rfl⟩ := RP2.form
  obtain ⟨nA1, nC1, rfl⟩ := RN1.form
  obtain ⟨nA2, nC2, rfl⟩ := RN2.form
  have RS1 : IsSec w (secC (.slice pA1 p1.n pC1) wh1 (.slice nA1 n1.n nC1) c1 f1 m1) ⟨p1, wh1, n1, c1, f1, m1⟩ := ⟨_, _, rfl, RP1, RN1⟩
  have RS2 : IsSec w (secC (.slice pA2 p2.n pC2) wh2 (.slice nA2 n2.n nC2) c2 f2 m2) ⟨p2, wh2, n2, c2, f2, m2⟩ := ⟨_, _, rfl, RP2, RN2⟩
  clear RP1 RP2 RN1 RN2
  obtain ⟨hB0, X0, Y0⟩ := boxed w (itC k1 q1 (.slice pA1 p1.n pC1) wh1 (.slice nA1 n1.n nC1) c1 f1 m1) (itC k2 q2 (.slice pA2 p2.n pC2) wh2 (.slice nA2 n2.n nC2) c2 f2 m2) 59
  have RS10 := Lib.hid (RS1.below hB0)
  have RS20 := Lib.hid (RS2.below hB0)
  have HB0 := Lib.hid hB0
  have HX0 := Lib.hid X0
  have HY0 := Lib.hid Y0
  clear hB0 X0 Y0 RS1 RS2
  go_enter Tryz.func41, Tryz.ntmps41
  by_cases e0 : k1 = k2
  rotate_left
  · have ne0 : (k1 == k2) = false := by simpa using e0
    have E0 := Lib.hid e0
    clear e0
    go_wp2_with fail
    go_ret
    exact EqP.no (fun h => E0.out h.1) HB0.out
  subst e0
  by_cases e1 : q1 = q2
  rotate_left
  · have ne1 : (q1 == q2) = false := by simpa using e1
    have E1 := Lib.hid e1
    clear e1
    go_wp2_with fail
    go_ret
    exact EqP.no (fun h => E1.out h.2.1) HB0.out
  subst e1
  go_wp2_with fail
  refine (same_42 _ _ ⟨p1, wh1, n1, c1, f1, m1⟩ ⟨p2, wh2, n2, c2, f2, m2⟩ _ RS10.out RS20.out).mono ?_
  rintro e w1 ⟨r1, rfl, hr1, hb1⟩
  have HX1 := Lib.hid (blk hb1 HX0.out)
  have HY1 := Lib.hid (blk hb1 HY0.out)
  have HB1 := Lib.hid (HB0.out.trans (hb1.mono HB0.out.size))
  have HR1 := Lib.hid hr1
  clear hb1 hr1
  cases r1
  · go_wp2_with fail
    go_ret
    exact EqP.no (fun h => absurd (HR1.out.2 h.2.2) (by decide)) HB1.out
  go_wp2_with fail
  go_ret
  exact EqP.yes ⟨rfl, rfl, HR1.out.1 (by simp)⟩ HB1.out

set_option maxHeartbeats 8000000 in
set_option maxRecDepth 100000 in
theorem same_43 (z1 z2 : List Value) (d1 d2 : KeyD) (w : World) (h1 : IsKey w z1 d1) (h2 : IsKey w z2 d2) : Calls Tryz.prog 43 #[.agg z1.toArray, .agg z2.toArray] w (EqP (KeyD.Eqv d1 d2) w) := by
  obtain ⟨sv1, rfl, RS1⟩ := h1
  obtain ⟨sv2, rfl, RS2⟩ := h2
  obtain ⟨o1, a1, t1, k1, s1, x1, y1⟩ := d1
  obtain ⟨o2, a2, t2, k2, s2, x2, y2⟩ := d2
  simp only [] at RS1 RS2
  obtain ⟨sA1, sC1, rfl⟩ := RS1.form
  obtain ⟨sA2, sC2, rfl⟩ := RS2.form
  obtain ⟨hB0, X0, Y0⟩ := boxed w (keyV o1 a1 t1 k1 (.slice sA1 s1.n sC1) x1 y1) (keyV o2 a2 t2 k2 (.slice sA2 s2.n sC2) x2 y2) 77
  have RS10 := Lib.hid (RS1.below hB0 fun _ _ h => h)
  have RS20 := Lib.hid (RS2.below hB0 fun _ _ h => h)
  have HB0 := Lib.hid hB0
  have HX0 := Lib.hid X0
  have HY0 := Lib.hid Y0
  clear hB0 X0 Y0 RS1 RS2
  go_enter Tryz.func43, Tryz.ntmps43
  by_cases e0 : o1 = o2
  rotate_left
  · have ne0 : (o1 == o2) = false := by simpa using e0
    have E0 := Lib.hid e0
    clear e0
    go_wp2_with fail
    go_ret
    exact EqP.no (fun h => E0.out h.1) HB0.out
  subst e0
  by_cases e1 : a1 = a2
  rotate_left
  · have ne1 : (a1.toList == a2.toList) = false := by rw [Bool.eq_false_iff]; exact fun hh => e1 ((bytes_eq _ _).1 hh)
    have E1 := Lib.hid e1
    clear e1
    go_wp2_with fail
    go_ret
    exact EqP.no (fun h => E1.out h.2.1) HB0.out
  subst e1
  by_cases e2 : t1 = t2
  rotate_left
  · have ne2 : (t1.toList == t2.toList) = false := by rw [Bool.eq_false_iff]; exact fun hh => e2 ((bytes_eq _ _).1 hh)
    have E2 := Lib.hid e2
    clear e2
    go_wp2_with fail
    go_ret
    exact EqP.no (fun h => E2.out h.2.2.1) HB0.out
  subst e2
  by_cases e3 : k1 = k2
  rotate_left
  · have ne3 : (k1 == k2) = false := by simpa using e3
    have E3 := Lib.hid e3
    clear e3
    go_wp2_with fail
    go_ret
    exact EqP.no (fun h => E3.out h.2.2.2.1) HB0.out
  subst e3
  go_wp2_with fail
  refine (same_44 _ _ s1 s2 _ RS10.out RS20.out).mono ?_
  rintro e w1 ⟨r1, rfl, hr1, hb1⟩
  have HX1 := Lib.hid (blk hb1 HX0.out)
  have HY1 := Lib.hid (blk hb1 HY0.out)
  have HB1 := Lib.hid (HB0.out.trans (hb1.mono HB0.out.size))
  have HR1 := Lib.hid hr1
  clear hb1 hr1
  cases r1
  · go_wp2_with fail
    go_ret
    exact EqP.no (fun h => absurd (HR1.out.2 h.2.2.2.2.1) (by decide)) HB1.out
  by_cases e5 : x1 = x2
  rotate_left
  · have ne5 : (x1 == x2) = false := by simpa using e5
    have E5 := Lib.hid e5
    clear e5
    have p1x5 := cell_hp HX1.out (j := 5) (v := .int .i64 x1) rfl
    have q1x5 := cell_hp HY1.out (j := 5) (v := .int .i64 x2) rfl
    have p1x6 := cell_hp HX1.out (j := 6) (v := .int .i64 y1) rfl
    have q1x6 := cell_hp HY1.out (j := 6) (v := .int .i64 y2) rfl
    go_wp2_with fail
    go_ret
    exact EqP.no (fun h => E5.out h.2.2.2.2.2.1) HB1.out
  subst e5
  by_cases e6 : y1 = y2
  rotate_left
  · have ne6 : (y1 == y2) = false := by simpa using e6
    have E6 := Lib.hid e6
    clear e6
    have p1x5 := cell_hp HX1.out (j := 5) (v := .int .i64 x1) rfl
    have q1x5 := cell_hp HY1.out (j := 5) (v := .int .i64 x1) rfl
    have p1x6 := cell_hp HX1.out (j := 6) (v := .int .i64 y1) rfl
    have q1x6 := cell_hp HY1.out (j := 6) (v := .int .i64 y2) rfl
    go_wp2_with fail
    go_ret
    exact EqP.no (fun h => E6.out h.2.2.2.2.2.2) HB1.out
  subst e6
  have p1x5 := cell_hp HX1.out (j := 5) (v := .int .i64 x1) rfl
  have q1x5 := cell_hp HY1.out (j := 5) (v := .int .i64 x1) rfl
  have p1x6 := cell_hp HX1.out (j := 6) (v := .int .i64 y1) rfl
  have q1x6 := cell_hp HY1.out (j := 6) (v := .int .i64 y1) rfl
  go_wp2_with fail
  go_ret
  exact EqP.yes ⟨rfl, rfl, rfl, rfl, HR1.out.1 (by simp), rfl, rfl⟩ HB1.out

end Go.Proofs.YtjamgkcmpcnfpaaGreatDoor
