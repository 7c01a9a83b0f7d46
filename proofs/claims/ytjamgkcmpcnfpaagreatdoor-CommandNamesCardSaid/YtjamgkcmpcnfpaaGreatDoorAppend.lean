/-
  The parser's 'appended', at a name and a literal.
-/
import Derived.Test.YtjamgkcmpcnfpaaGreatDoorForms
namespace Go.Proofs.YtjamgkcmpcnfpaaGreatDoor
open Go.RowKit

theorem box_atom_more (B g : Nat) (s t : ByteArray) (r : List UInt8) (a : Option Addr) (n c : Nat) (kv : Value) (w : World) (hE : Env B w) (hg : B ≤ g) (hA : At g w t (.slice a n c) kv) (ht : t.data.toList = s.data.toList ++ 32 :: r) (hs : t.size ≤ 9223372036854775807) (h : NameOk s) (hne : s.data.toList ≠ []) (hat : allB atomB s.data.toList = true) :
    Calls Tryz.prog 81 #[PP g] w fun e w' => e = .returned (.string ⟨(cleanL s.data.toList).toArray⟩) ∧ At g w' ⟨(32 :: r).toArray⟩ (.slice a n c) kv ∧ Kept g w w' := by
  obtain ⟨m, hm⟩ := hE.m
  have hat' : allB (atomOr []) s.data.toList = true := by
    unfold allB at hat ⊢; rw [List.all_eq_true] at hat ⊢; intro x hx; rw [atomOr_nil]; exact hat x hx
  have e0 : (⟨s.data.toList.toArray⟩ : ByteArray) = s := ext_list s _ rfl
  have hS := str_atom g t ⟨#[]⟩ s.data.toList (32 :: r) a n c kv w hA ht hs hne hat' rfl (by decide)
  rw [e0] at hS
  refine (box_of g s m w (fun w' => At g w' ⟨(32 :: r).toArray⟩ (.slice a n c) kv ∧ Kept g w w') hS (fun w' hq => hq.2) hm (by have := hE.four; omega) h).mono ?_
  rintro e w' ⟨rfl, w1, ⟨hA1, hK1⟩, hB1⟩
  exact ⟨rfl, hA1.of_below hB1 hA1.lt, hK1.andBelow hB1 hK1.size⟩

theorem Kept2.lt {g x : Nat} {w w' : World} (h : Kept2 g x w w') {k : Nat} (hk : k < w.heap.size) : k < w'.heap.size := Nat.lt_of_lt_of_le hk h.size

set_option maxHeartbeats 4000000 in
set_option maxRecDepth 100000 in
theorem appended_any (g xb rb ro c : Nat) (t cl b0 z0 lit : ByteArray) (d0 : Int) (cs : Array Value) (r2 : List UInt8) (kv : Value) (w : World) (hA : At g w t (.slice (some ⟨rb, ro, none⟩) 2 c) kv) (hgx : xb ≠ g)
    (hX : w.heap[xb]? = some (.cells cs 31 (0, 0))) (h3 : cs[3]? = some (.string b0)) (h9 : cs[9]? = some (.int .i64 d0)) (h11 : cs[11]? = some (.string z0))
    (hc2 : 2 ≤ c) (hmax : c ≤ 9223372036854775807) (hr0 : w.cell? ⟨rb, ro, none⟩ = some (.string lit)) (hr1 : w.cell? ⟨rb, ro + 1, none⟩ = some (.string ⟨#[]⟩)) (hne : rb ≠ g) (hnx : rb ≠ xb)
    (hBox : Calls Tryz.prog 81 #[PP g] w fun e w' => e = .returned (.string cl) ∧ At g w' ⟨#[32]⟩ (.slice (some ⟨rb, ro, none⟩) 2 c) kv ∧ Kept g w w') :
    Calls Tryz.prog 85 #[PP g, .pointer (some ⟨xb, 0, none⟩)] w fun e w' => e = .returned (.tuple #[]) ∧
      w'.heap[xb]? = some (.cells (((cs.setIfInBounds 3 (.string cl)).setIfInBounds 9 (.int .i64 (-1))).setIfInBounds 11 (.string lit)) 31 (0, 0)) ∧ Done g kv w' ∧ Kept2 g xb w w' := by
  have hlt := (Array.getElem?_eq_some_iff.1 hX).1
  have hrlt := World.block_lt_of_cell? _ _ hr0
  simp only at hrlt
  have HB := Lib.hid hBox; clear hBox
  have HX := Lib.hid hX; clear hX
  have H3 := Lib.hid h3; clear h3
  have H9 := Lib.hid h9; clear h9
  have H11 := Lib.hid h11; clear h11
  have Hr0 := Lib.hid hr0; clear hr0
  have Hr1 := Lib.hid hr1; clear hr1
  clear hA
  go_enter Tryz.func85, Tryz.ntmps85
  go_wp2_with fail
  refine HB.out.mono ?_
  rintro e w1 ⟨rfl, hA1, hK1⟩
  have X1 := Lib.hid ((hK1.block xb hlt hgx).trans HX.out)
  have c13 := cells_at X1.out H3.out
  have f13 := Lib.frozen_of_heap X1.out 3
  have X2 := Lib.hid (heap_setCell_same w1 xb 3 cs 31 (.string cl) X1.out)
  have c29 := cells_at (j := 9) X2.out (by rw [Array.getElem?_setIfInBounds]; simp; exact H9.out)
  have f29 := Lib.frozen_of_heap X2.out 9
  have X3 := Lib.hid (heap_setCell_same _ xb 9 _ 31 (.int .i64 (-1)) X2.out)
  have hA3 := (hA1.other (p := ⟨xb, 3, none⟩) hgx (.string cl)).other (p := ⟨xb, 9, none⟩) hgx (.int .i64 (-1))
  have hK3 : Kept2 g xb w ((w1.setCell ⟨xb, 3, none⟩ (.string cl)).setCell ⟨xb, 9, none⟩ (.int .i64 (-1))) := ((hK1.two xb).setx 3 _).setx 9 _
  go_wp2_with fail
  generalize ((w1.setCell ⟨xb, 3, none⟩ (.string cl)).setCell ⟨xb, 9, none⟩ (.int .i64 (-1))) = W3 at *
  refine (eat_has g _ ⟨#[32]⟩ [] _ kv _ hA3 rfl).mono ?_
  rintro e w4 ⟨rfl, hA4, hK4⟩
  go_wp2_with fail
  refine (may_not g _ ⟨#[40]⟩ _ kv _ hA4 rfl).mono ?_
  rintro e w5 ⟨rfl, hA5, hK5⟩
  go_wp2_with fail
  refine (may_not g _ ⟨#[34]⟩ _ kv _ hA5 rfl).mono ?_
  rintro e w6 ⟨rfl, hA6, hK6⟩
  have hK36 := (hK4.trans hK5).trans hK6
  have hK06 := hK3.trans (hK36.two xb)
  go_wp2_with fail
  refine (literal_any g _ lit ⟨#[]⟩ rb ro 2 c kv w6 hA6 (empty_list _ rfl) (Nat.le_refl _) hc2 hmax ((hK06.cell (p := ⟨rb, ro, none⟩) hrlt hne hnx).trans Hr0.out) ((hK06.cell (p := ⟨rb, ro + 1, none⟩) hrlt hne hnx).trans Hr1.out) hne).mono ?_
  rintro e w7 ⟨rfl, ⟨a', hA7⟩, hK7⟩
  have X7 := Lib.hid (((hK36.trans hK7).block xb (hK3.lt hlt) hgx).trans X3.out)
  have c7 := cells_at (j := 11) X7.out (by rw [Array.getElem?_setIfInBounds, Array.getElem?_setIfInBounds]; simp; exact H11.out)
  have f7 := Lib.frozen_of_heap X7.out 11
  go_wp2_with fail
  have fin := heap_setCell_same w7 xb 11 _ 31 (.string lit) X7.out
  first
  | (go_end0; exact ⟨rfl, fin, ⟨a', c - 2, hA7.other (p := ⟨xb, 11, none⟩) hgx _⟩, (hK06.trans (hK7.two xb)).setx 11 _⟩)
  | exact ⟨rfl, _, results_none rfl _ _ _, rfl, fin, ⟨a', c - 2, hA7.other (p := ⟨xb, 11, none⟩) hgx _⟩, (hK06.trans (hK7.two xb)).setx 11 _⟩

set_option maxHeartbeats 4000000 in
set_option maxRecDepth 100000 in
/-- 'takes' at a command whose taking is a method of its own: append, store. -/
theorem takes_own (g xb : Nat) (op : Int) (f : FuncId) (hop : op = 15 ∧ f = 85 ∨ op = 21 ∧ f = 88) (t : ByteArray) (r : List UInt8) (rv kv : Value) (w : World) (Q : World → Prop) (hA : At g w t rv kv) (ht : t.data.toList = 32 :: r) (hgx : xb ≠ g)
    (h1 : w.cell? ⟨xb, 1, none⟩ = some (.int .i64 op))
    (hApp : ∀ w1, At g w1 ⟨r.toArray⟩ rv kv → Kept g w w1 → Calls Tryz.prog f #[PP g, .pointer (some ⟨xb, 0, none⟩)] w1 fun e w' => e = .returned (.tuple #[]) ∧ Q w') :
    Calls Tryz.prog 52 #[PP g, .pointer (some ⟨xb, 0, none⟩)] w fun e w' => e = .returned (.tuple #[]) ∧ Q w' := by
  have hE := eat_has g t ⟨#[32]⟩ r rv kv w hA (space_has t r ht)
  have hlt := World.block_lt_of_cell? _ _ h1
  have HE := Lib.hid hE; clear hE
  have HA := Lib.hid hApp; clear hApp
  clear hA ht
  rcases hop with ⟨rfl, rfl⟩ | ⟨rfl, rfl⟩
  all_goals
    go_enter Tryz.func52, Tryz.ntmps52
    go_wp2_with fail
    refine HE.out.mono ?_
    rintro e w1 ⟨rfl, hA1, hK1⟩
    have h1' := (hK1.cell (p := ⟨xb, 1, none⟩) hlt hgx).trans h1
    go_wp2_with fail
    refine (HA.out w1 hA1 hK1).mono ?_
    rintro e w2 ⟨rfl, hq⟩
    go_wp2_with fail
    first
    | (go_end0; exact ⟨rfl, hq⟩)
    | (refine bodyPost_ret (results_none rfl _ _ _) rfl ?_; exact ⟨rfl, hq⟩)

def cmdApp (tag : List UInt8) (cl lit : ByteArray) : Array Value :=
  #[.string ⟨tag.toArray⟩, .int .i64 15, .bool false, .string cl, .string ⟨#[]⟩, .slice none 0 0, .int .i64 0, .bool false, .int .i64 0, .int .i64 (-1), .int .i64 0, .string lit, .slice none 0 0, .slice none 0 0, .slice none 0 0]

set_option maxRecDepth 10000 in
theorem parse_append (B b : Nat) (p0 s lit : ByteArray) (tag nm : List UInt8) (w : World) (hE : Env B w) (hT : TagOk tag) (hO : OpOk nm 15) (hB : BoxOk s) (hlit : lit.size ≤ 2000)
    (hp : p0.data.toList = tag ++ 32 :: (nm ++ 32 :: (s.data.toList ++ [32]))) (hs : p0.size ≤ 2000) (hc : w.cell? ⟨b, 0, none⟩ = some (.string p0)) (hc1 : w.cell? ⟨b, 1, none⟩ = some (.string lit)) (hc2 : w.cell? ⟨b, 2, none⟩ = some (.string ⟨#[]⟩)) :
    Calls Tryz.prog 10 #[.slice (some ⟨b, 0, none⟩) 3 3] w fun e w' => e = .returned (.tuple #[.agg (cmdApp tag (boxCl s) lit), .int .i64 0]) ∧ Below w.heap.size w w' := by
  have hlt := World.block_lt_of_cell? _ _ hc
  simp only at hlt
  have hj3 : ∀ j, j < 3 → j = 0 ∨ j = 1 ∨ j = 2 := by omega
  have hr : (⟨(s.data.toList ++ [32]).toArray⟩ : ByteArray).size ≤ 9223372036854775807 := by rw [size_bytes, hp] at hs; rw [size_bytes]; simp at hs ⊢; omega
  have h := Parse_ok b 0 3 3 [p0, lit, ⟨#[]⟩] p0 w rfl (by omega) rfl (Nat.le_refl _) (by omega)
    (by intro j hj
        rcases hj3 j hj with rfl | rfl | rfl
        · exact hc
        · exact hc1
        · exact hc2)
    (by intro j hj
        rcases hj3 j hj with rfl | rfl | rfl
        · exact hs
        · exact hlit
        · exact Nat.zero_le _) rfl (fun cs => cs = cmdApp tag (boxCl s) lit) (by rintro cs rfl; exact ⟨rfl, by simp [cmdApp, Value.oneCell']⟩) _ (stays_true _) (fun g w1 hg hA hb hsz => by
      rw [if_neg (by omega)] at hA
      have hEw := hE
      obtain ⟨bm, hl⟩ := hE.look
      refine command_plain g bm p0 tag nm (32 :: (s.data.toList ++ [32])) 15 _ _ w1 hA hp (by omega) hT.ne hT.all hT.len hT.plus hO.ne hO.all rfl hO.look hO.op hO.uid (fun W hW => hl W ((hb.mono hE.le).trans (hW.below (Nat.le_trans hE.le hg) (by have := hE.le; omega) (by have := hE.le; omega))))
        _ (by rintro cs rfl; exact ⟨rfl, by simp [cmdApp, Value.oneCell']⟩) _ ?_
      intro w2 hA2 hX hK
      have hlt1 := hA.lt
      refine (takes_own g w1.heap.size 15 85 (.inl ⟨rfl, rfl⟩) _ (s.data.toList ++ [32]) _ _ w2 (fun w' => ∃ cs, cs = cmdApp tag (boxCl s) lit ∧ w'.heap[w1.heap.size]? = some (.cells cs 31 (0, 0)) ∧ Done g (.slice none 0 0) w' ∧ Kept2 g w1.heap.size w2 w' ∧ True) hA2 rfl (by omega) (cells_at hX (by simp [zeroCmd])) (fun w3 hA3 hK3 => ?_)).mono ?_
      · have hb13 : Below w.heap.size w w3 := hb.trans ((hK.trans (hK3.two _)).below (by omega) (by omega) (by omega))
        have hsz12 := hK.size
        have hxlt := (Array.getElem?_eq_some_iff.1 hX).1
        refine (appended_any g w1.heap.size b 1 2 _ (boxCl s) ⟨#[]⟩ ⟨#[]⟩ lit 0 _ [] _ w3 hA3 (by omega) ((hK3.block _ hxlt (by omega)).trans hX) (by simp [zeroCmd]) (by simp [zeroCmd]) (by simp [zeroCmd]) (Nat.le_refl _) (by omega)
          ((hb13.cell (p := ⟨b, 1, none⟩) hlt).trans hc1) ((hb13.cell (p := ⟨b, 2, none⟩) hlt).trans hc2) (by omega) (by omega) (box_atom_more B g s _ [] _ _ _ _ w3 (hEw.step (hb13.mono hE.le)) (Nat.le_trans hE.le hg) hA3 (by simp) hr hB.name hB.ne hB.atom)).mono ?_
        rintro e w4 ⟨rfl, hX4, hD4, hK4⟩
        exact ⟨rfl, _, by simp [zeroCmd, cmdApp], hX4, hD4, (hK3.two _).trans hK4, trivial⟩
      · rintro e w4 ⟨rfl, cs, rfl, hX4, hD4, hK4, _⟩
        exact ⟨_, rfl, rfl, hX4, hD4, hK4, trivial⟩)
  refine h.mono ?_
  rintro e w' ⟨cs, rfl, rfl, hb, _⟩
  exact ⟨rfl, hb⟩

end Go.Proofs.YtjamgkcmpcnfpaaGreatDoor
