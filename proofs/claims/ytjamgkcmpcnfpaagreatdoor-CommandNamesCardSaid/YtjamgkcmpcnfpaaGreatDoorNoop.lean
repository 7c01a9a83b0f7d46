/-
  Commands that are refused: something behind them.
-/
import Derived.Test.YtjamgkcmpcnfpaaGreatDoorForms
import Derived.RegionTactic
import Derived.ChangeAlike
namespace Go.Proofs.YtjamgkcmpcnfpaaGreatDoor
open Go.RowKit

set_option maxHeartbeats 1000000 in
set_option maxRecDepth 100000 in
theorem takes_noop (g xb : Nat) (w : World) (h1 : w.cell? ⟨xb, 1, none⟩ = some (.int .i64 2)) :
    Calls Tryz.prog 52 #[PP g, .pointer (some ⟨xb, 0, none⟩)] w fun e w' => e = .returned (.tuple #[]) ∧ w = w' := by
  go_enter Tryz.func52, Tryz.ntmps52
  go_wp2_with fail
  first
  | (go_end0; exact ⟨rfl, rfl⟩)
  | (refine bodyPost_ret (results_none rfl _ _ _) rfl ?_; exact ⟨rfl, rfl⟩)

set_option maxHeartbeats 4000000 in
set_option maxRecDepth 100000 in
/-- A command that takes nothing, with something behind it. -/
theorem command_more (g bm : Nat) (t : ByteArray) (tag nm r : List UInt8) (rv kv : Value) (w : World) (hA : At g w t rv kv) (hrv : ∃ a n c, rv = .slice a n c) (ht : t.data.toList = tag ++ 32 :: (nm ++ r)) (hs : t.size ≤ 9223372036854775807) (hr : r ≠ [])
    (htag : tag ≠ []) (ha : allB (atomOr [93]) tag = true) (hl : tag.length ≤ 40) (hp : Lib.indexByte tag 43 < 0)
    (hnm : nm ≠ []) (hna : allB nameB nm = true) (hnb : stopB nameB r = true) (hop : (smallL nm, (2 : Int)) ∈ opsT) (h0 : (2 : Int) ≠ 0) (huid : smallL nm ≠ [117, 105, 100])
    (hLook : ∀ W, Kept2 g w.heap.size w W → Look bm W) :
    Calls Tryz.prog 24 #[PP g] w fun e w' => e = Wrong ∧ Kept2 g w.heap.size w w' := by
  obtain ⟨a, n, c, hrv⟩ := hrv
  subst hrv
  have hT := tag_any g t tag (32 :: (nm ++ r)) (.slice a n c) kv (w.alloc (.cells zeroCmd 31)) (hA.alloc _) ht hs htag ha (show (!(atomOr [93] ((32 : UInt8).toNat : Int))) = true from by decide) hl hp
  have hsz2 : (⟨(nm ++ r).toArray⟩ : ByteArray).size ≤ 9223372036854775807 := by rw [size_bytes, ht] at hs; rw [size_bytes]; simp at hs ⊢; omega
  have Hsz2 := Lib.hid hsz2; clear hsz2
  have hX0 : (w.alloc (.cells zeroCmd 31)).heap[w.heap.size]? = some (.cells zeroCmd 31 (0, 0)) := heap_alloc_at _ _ _ rfl
  have hK0 : Kept g w (w.alloc (.cells zeroCmd 31)) := (Kept.refl _ _).alloc _
  have hlt0 : w.heap.size < (w.alloc (.cells zeroCmd 31)).heap.size := by simp
  have hgx : w.heap.size ≠ g := by have := hA.lt; omega
  have HT := Lib.hid hT; clear hT
  have HX0 := Lib.hid hX0; clear hX0
  have HK0 := Lib.hid hK0; clear hK0
  have HL := Lib.hid hLook; clear hLook
  have hop0 : ((2:Int) != 0) = true := by rw [bne_iff_ne]; exact h0
  have Hop := Lib.hid hop; clear hop
  have huid' : (smallL nm == [117, 105, 100]) = false := by simpa using huid
  have Hn : Hid (∀ w1, At g w1 ⟨(nm ++ r).toArray⟩ (.slice a n c) kv → Calls Tryz.prog 51 #[PP g] w1 fun e w' => e = .returned (.string ⟨(smallL nm).toArray⟩) ∧ At g w' ⟨r.toArray⟩ (.slice a n c) kv ∧ Kept g w1 w') :=
    Lib.hid (fun w1 hA1 => name_any g _ nm r (.slice a n c) kv w1 hA1 (by simp) Hsz2.out hnm hna hnb)
  have hov0 : ((⟨r.toArray⟩ : ByteArray).toList.isEmpty && decide (n = 0)) = false := by rw [nonempty_list _ (by simpa using hr)]; rfl
  have hov := Lib.hid hov0; clear hov0
  clear hA ht hs htag ha hl hp hnm hna hnb h0 huid hr
  go_enter Tryz.func24, Tryz.ntmps24
  go_wp2_with fail
  refine HT.out.mono ?_
  generalize (w.alloc (.cells zeroCmd 31)) = W0 at HX0 HK0 hlt0
  rintro e w1 ⟨rfl, hA1, hK1⟩
  have X1 := Lib.hid ((hK1.block _ hlt0 hgx).trans HX0.out)
  have c10 := cells_at (j := 0) X1.out rfl
  have f10 := Lib.frozen_of_heap X1.out 0
  go_wp2_with fail
  have X1' := Lib.hid (heap_setCell_same w1 w.heap.size 0 _ 31 (.string ⟨tag.toArray⟩) X1.out)
  have hA1' := hA1.other (p := ⟨w.heap.size, 0, none⟩) hgx (.string ⟨tag.toArray⟩)
  have hK1' : Kept2 g w.heap.size w (w1.setCell ⟨w.heap.size, 0, none⟩ (.string ⟨tag.toArray⟩)) := ((HK0.out.trans hK1).two _).setx 0 _
  have hlt1 : w.heap.size < (w1.setCell ⟨w.heap.size, 0, none⟩ (.string ⟨tag.toArray⟩)).heap.size := by have := hK1.size; simp; omega
  generalize hW1 : w1.setCell ⟨w.heap.size, 0, none⟩ (.string ⟨tag.toArray⟩) = W1 at *
  clear hW1 c10 f10 hA1 hK1
  refine (eat_has g _ ⟨#[32]⟩ (nm ++ r) (.slice a n c) kv _ hA1' (space_has _ _ (by simp))).mono ?_
  rintro e w2 ⟨rfl, hA2, hK2⟩
  go_wp2_with fail
  refine (Hn.out w2 hA2).mono ?_
  rintro e w3 ⟨rfl, hA3, hK3⟩
  have hK3' : Kept2 g w.heap.size w w3 := hK1'.trans ((hK2.trans hK3).two _)
  have X3 := Lib.hid (((hK2.trans hK3).block _ hlt1 hgx).trans X1'.out)
  have hlc := (HL.out w3 hK3').cell
  have hll := (HL.out w3 hK3').look _ Hop.out
  simp only at hll
  have c31 := cells_at (j := 1) X3.out rfl
  have f31 := Lib.frozen_of_heap X3.out 1
  have hlt3 : w.heap.size < w3.heap.size := Nat.lt_of_lt_of_le hlt1 (hK2.trans hK3).size
  clear hA2 hK2 hK3 hK1'
  go_wp2_with fail
  refine (must_yes _).mono ?_
  rintro e w4 ⟨rfl, rfl⟩
  have X4 := heap_setCell_same w3 w.heap.size 1 _ 31 (.int .i64 2) X3.out
  have hA4 := hA3.other (p := ⟨w.heap.size, 1, none⟩) hgx (.int .i64 2)
  have hK4 := hK3'.setx 1 (.int .i64 2)
  have c4 := cells_at (j := 1) (v := .int .i64 2) X4 (by simp [zeroCmd])
  have hT4 := Lib.hid (takes_noop g w.heap.size _ c4)
  clear X4 c4 hlc hll c31 f31 hA3
  go_wp2_with fail
  refine hT4.out.mono ?_
  rintro e w5 ⟨rfl, rfl⟩
  go_wp2_with fail
  refine (over_any g _ a n c kv _ hA4).mono ?_
  rintro e w6 ⟨rfl, rfl⟩
  rw [hov.out]
  go_wp2_with fail
  refine (must_no _).mono ?_
  rintro e w7 ⟨rfl, rfl⟩
  go_wp2_with fail
  exact ⟨rfl, rfl, hK4⟩

/-- The reading of a line ends in a panic of 'must'. -/
def Fails (p0 : ByteArray) (rv : Value) (w : World) : Prop :=
  ∀ g w1, w.heap.size ≤ g → At g w1 p0 rv (.slice none 0 0) → Below w.heap.size w w1 → w1.heap.size = w.heap.size + 4 →
    Calls Tryz.prog 24 #[PP g] w1 fun e w' => e = Wrong ∧ Kept2 g w1.heap.size w1 w'

set_option maxHeartbeats 2000000 in
set_option maxRecDepth 100000 in
theorem Parse2_no (p0 : ByteArray) (rv : Value) (pb g : Nat) (w W : World) (hW : PW w p0 rv pb g W) (hG : Fails p0 rv w) :
    Calls Tryz.prog 23 #[.pointer (some ⟨pb, 0, none⟩), .pointer (some ⟨w.heap.size, 0, none⟩)] (W.alloc (.cells #[.bool false] 4)) fun e w' => e = Wrong ∧ Kept2 g (w.heap.size + 4) (W.alloc (.cells #[.bool false] 4)) w' := by
  have hat := hW.at_
  have hsz := hW.size
  have hpb := cell_of_block ((heap_alloc_lt W (.cells #[.bool false] 4) pb (by omega)).trans hW.p)
  have hg' := hG g (W.alloc (.cells #[.bool false] 4)) (by omega) (hW.a.alloc _) (hW.below.alloc (by omega) _) (by simp [hsz])
  have e4 : (W.alloc (.cells #[.bool false] 4)).heap.size = w.heap.size + 4 := by simp [hsz]
  rw [e4] at hg'
  have HG := Lib.hid hg'; clear hg'
  clear hat
  generalize W.alloc (.cells #[.bool false] 4) = W4 at *
  clear hW hG hsz e4
  go_enter Tryz.func23, Tryz.ntmps23
  go_wp2_with fail
  refine HG.out.mono ?_
  rintro e w2 ⟨rfl, hK⟩
  go_wp2_with fail
  exact ⟨rfl, rfl, hK⟩

theorem parse_try_no (p0 : ByteArray) (rv : Value) (pb g : Nat) (w W : World) (hW : PW w p0 rv pb g W) (hG : Fails p0 rv w) :
    Calls Tryz.prog 22 #[.func (.func 23) #[] #[.pointer (some ⟨pb, 0, none⟩), .pointer (some ⟨w.heap.size, 0, none⟩)]] W fun e w' => e = .returned (.bool false) ∧ w'.heap[w.heap.size]? = some (.cells zeroCmd 31 (0, 0)) ∧ Below w.heap.size w w' := by
  have hat := hW.at_
  have hsz := hW.size
  have e4 : (W.alloc (.cells #[.bool false] 4)).heap.size = w.heap.size + 4 := by simp [hsz]
  refine try_no 23 _ (enters_of Tryz.func23 (by kernel_rfl) rfl) W _ ((Parse2_no p0 rv pb g w W hW hG).mono ?_)
  rintro e w' ⟨rfl, hK⟩
  have h3 : w'.heap[W.heap.size]? = some (.cells #[.bool false] 4 (0, 0)) := (hK.block _ (by simp) (by omega) (by omega)).trans (heap_alloc_at _ _ _ rfl)
  have h0 : w'.heap[w.heap.size]? = some (.cells zeroCmd 31 (0, 0)) := (hK.block _ (by omega) (by omega) (by omega)).trans ((heap_alloc_lt _ _ _ (by omega)).trans hW.x)
  have hlt := (Array.getElem?_eq_some_iff.1 h0).1
  refine ⟨rfl, h3, ?_, ?_⟩
  · rw [setCell_heap_loop (by simp only []; omega), heap_alloc_lt _ _ _ hlt]; exact h0
  · have hb := hW.below
    have hs := hK.size
    refine (hb.trans ((hK.below (B := w.heap.size) (by omega) (by omega) (by omega)) |> fun k => ((Below.refl _ W).alloc (by omega) _).trans k)).trans ?_
    exact ((Below.refl _ w').alloc (by omega) _).setCell (by simp only []; omega) _

set_option maxHeartbeats 4000000 in
set_option maxRecDepth 100000 in
/-- Parse, at a line of one part that is refused. -/
theorem parse_no (b : Nat) (p0 : ByteArray) (w : World) (hs : p0.size ≤ 2000) (hc : w.cell? ⟨b, 0, none⟩ = some (.string p0)) (hG : Fails p0 (.slice (some ⟨b, 0, none⟩) 0 0) w) :
    Calls Tryz.prog 10 #[.slice (some ⟨b, 0, none⟩) 1 1] w fun e w' => e = .returned (.tuple #[.agg zeroCmd, .int .i64 3]) ∧ Below w.heap.size w w' := by
  have hb0 : b < w.heap.size := World.block_lt_of_cell? _ _ hc
  have hc0 := (World.cell?_alloc_lt w (.cells zeroCmd 31) ⟨b, 0, none⟩ hb0).trans hc
  have hCF := ContainsFunc_long b 0 1 1 [p0] (w.alloc (.cells zeroCmd 31)) rfl (by omega) (fun j hj => by
    obtain rfl : j = 0 := by omega
    exact hc0) (fun j hj => by
    obtain rfl : j = 0 := by omega
    exact hs)
  have HCF := Lib.hid hCF; clear hCF
  have HG := Lib.hid hG; clear hG
  have hmf : ∀ (fn : Fn) (first cap : Array Value) (w : World), (Instr.makeFunc fn first cap).run Tryz.prog w = .ok (.func fn first cap) w := fun _ _ _ _ => rfl
  clear hc hs
  have hi : (Tryz.prog.info? 31).map (·.size) = some zeroCmd.size := by kernel_rfl
  go_enter Tryz.func10, Tryz.ntmps10
  go_wp2_with fail
  refine HCF.out.mono ?_
  rintro e w1 ⟨rfl, rfl⟩
  go_wp2_with fail
  go_region
  all_goals go_wp2_with fail
  all_goals
    first
    | (refine (parse_try_no p0 _ (w.heap.size + 1) (w.heap.size + 2) w _ (pw_a w p0 _) HG.out).mono ?_)
    | (refine (parse_try_no p0 _ (w.heap.size + 2) (w.heap.size + 1) w _ (pw_b w p0 _) HG.out).mono ?_)
    rintro e w5 ⟨rfl, hx, hB⟩
    have Hx := Lib.hid hx; clear hx
    go_wp2_with (refine wpList_store_row rfl 31 _ _ rfl w.heap.size zeroCmd rfl rfl 31 zeroCmd Hx.out hi rfl (by simp [zeroCmd, Value.oneCell']) ?_; rw [setRow_self _ _ _ _ _ Hx.out])
    exact bodyPost_ret (results_parse rfl rfl Hx.out hi) rfl ⟨rfl, hB⟩

end Go.Proofs.YtjamgkcmpcnfpaaGreatDoor
