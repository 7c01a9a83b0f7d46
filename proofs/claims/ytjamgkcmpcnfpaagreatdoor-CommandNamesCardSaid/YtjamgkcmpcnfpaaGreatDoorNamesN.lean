/-
  The law's walk: a name as an atom, quoted, as a literal; a set.
-/
import Derived.Test.YtjamgkcmpcnfpaaGreatDoorCarry
import Derived.Deep.CutRange
namespace Go.Proofs.YtjamgkcmpcnfpaaGreatDoor
open Go.RowKit

theorem load_row_want {ops : Array Oper} {rest : List Oper} {o : Oper} {a : Act} {w : World} {Q : Exit → Act → World → Prop} (x : Operand) (ho : o.op = .load 31 x)
    (g : Nat) (hx : a.eval x = .pointer (some ⟨g, 0, none⟩)) (cs : Array Value) (hg : w.heap[g]? = some (.cells cs 31 (0, 0))) (hi : (Tryz.prog.info? 31).map (·.size) = some cs.size) (hw : Region.wanted o (yielded ops a.tmps) = true)
    (h : wpList Tryz.prog ops Q rest (a.put o.dst (.agg cs)) w) : wpList Tryz.prog ops Q (o :: rest) a w :=
  BigFrame.wpList_want hw fun _ hK => wp_load_row 31 x ho g hx 31 cs (0, 0) _ hg Tryz.underlying31 rfl hi (hK _ _ h)

theorem alloc1 {W w : World} (h : Below W.heap.size W w) (x : Obj) : Below W.heap.size W (w.alloc x) := h.alloc h.size x
theorem alloc3 {W w : World} (h : Below W.heap.size W w) (x y z : Obj) : Below W.heap.size W (((w.alloc x).alloc y).alloc z) := alloc1 (alloc1 (alloc1 h x) y) z

theorem cmdC_size (tag : List UInt8) (op : Int) (cl : ByteArray) (v : Value) : (Tryz.prog.info? 31).map (·.size) = some (cmdC tag op cl v).size := by rw [show (cmdC tag op cl v).size = 15 from rfl]; kernel_rfl
theorem cmdC_one (tag : List UInt8) (op : Int) (cl : ByteArray) (A : Option Addr) (n c : Nat) : (cmdC tag op cl (.slice A n c)).all (·.oneCell') = true := by simp [cmdC, Value.oneCell']

theorem op5 : OpOk [83, 69, 76, 69, 67, 84] 5 := ⟨by decide, by decide, by decide, by decide, by decide⟩
theorem op7 : OpOk [67, 82, 69, 65, 84, 69] 7 := ⟨by decide, by decide, by decide, by decide, by decide⟩
theorem op8 : OpOk [68, 69, 76, 69, 84, 69] 8 := ⟨by decide, by decide, by decide, by decide, by decide⟩
theorem op10 : OpOk [83, 85, 66, 83, 67, 82, 73, 66, 69] 10 := ⟨by decide, by decide, by decide, by decide, by decide⟩
theorem op22 : OpOk [67, 79, 80, 89] 22 := ⟨by decide, by decide, by decide, by decide, by decide⟩


/-- The number and the name of a round. -/
theorem pick_of (k : Nat) (h1 : k < [Value.int .i64 5, Value.int .i64 7, Value.int .i64 8, Value.int .i64 10].length)
    (h2 : k < [Value.string ⟨#[83, 69, 76, 69, 67, 84]⟩, Value.string ⟨#[67, 82, 69, 65, 84, 69]⟩, Value.string ⟨#[68, 69, 76, 69, 84, 69]⟩, Value.string ⟨#[83, 85, 66, 83, 67, 82, 73, 66, 69]⟩].length) :
    ∃ (op : Int) (nm : List UInt8), [Value.int .i64 5, Value.int .i64 7, Value.int .i64 8, Value.int .i64 10][k] = .int .i64 op ∧
      [Value.string ⟨#[83, 69, 76, 69, 67, 84]⟩, Value.string ⟨#[67, 82, 69, 65, 84, 69]⟩, Value.string ⟨#[68, 69, 76, 69, 84, 69]⟩, Value.string ⟨#[83, 85, 66, 83, 67, 82, 73, 66, 69]⟩][k] = .string ⟨nm.toArray⟩ ∧
      Hid (OpOk nm op ∧ (op = 5 ∨ op = 7 ∨ op = 8 ∨ op = 10)) ∧ nm.length ≤ 9 := by
  have hkc : k = 0 ∨ k = 1 ∨ k = 2 ∨ k = 3 := by simp at h1; omega
  rcases hkc with rfl | rfl | rfl | rfl
  · exact ⟨5, [83, 69, 76, 69, 67, 84], rfl, rfl, Lib.hid ⟨op5, by omega⟩, by decide⟩
  · exact ⟨7, [67, 82, 69, 65, 84, 69], rfl, rfl, Lib.hid ⟨op7, by omega⟩, by decide⟩
  · exact ⟨8, [68, 69, 76, 69, 84, 69], rfl, rfl, Lib.hid ⟨op8, by omega⟩, by decide⟩
  · exact ⟨10, [83, 85, 66, 83, 67, 82, 73, 66, 69], rfl, rfl, Lib.hid ⟨op10, by omega⟩, by decide⟩

set_option maxHeartbeats 16000000 in
set_option maxRecDepth 100000 in
theorem names_walk (B b o n c : Nat) (tag box : ByteArray) (ps : List (Int × Int)) (w : World) (hE : Env B w) (ht : tag.size ≤ 9223372036854775806) (hb : box.size ≤ 9223372036854775806) (hn : n ≤ 9223372036854775806)
    (hP : PairsAt w b o n ps) (hbl : 0 < n → b < w.heap.size) :
    Calls Tryz.prog 4 #[.string tag, .string box, .slice (some ⟨b, o, none⟩) n c] w fun e w' => e = .returned (.bool true) ∧ Below w.heap.size w w' := by
  have HE := Lib.hid hE
  have HA := Lib.hid (alive_yes B w hE)
  have HP := Lib.hid hP
  have Hbl := Lib.hid hbl
  clear hE hP hbl
  go_enter Tryz.func4, Tryz.ntmps4
  go_wp2_with fail
  refine HA.out.mono ?_
  rintro e w1 ⟨rfl, hB1⟩
  clear HA
  go_wp2_with fail
  refine (Clean10_any box w1 hb).mono ?_
  rintro e w2 ⟨t, e1, rfl, rfl, hcl⟩
  have Hcl := Lib.hid hcl
  clear hcl
  have hP1 : PairsAt w1 b o n ps := by
    intro i hi
    have hlt := Hbl.out (by omega)
    obtain ⟨a1, a2⟩ := HP.out i hi
    exact ⟨(hB1.cell (p := ⟨b, o + i * 2, none⟩) hlt).trans a1, (hB1.cell (p := ⟨b, o + i * 2 + 1, none⟩) hlt).trans a2⟩
  have HPr := Lib.hid (Print_any b o n c ps w1 hn hP1)
  clear hP1
  go_wp2_with fail
  refine HPr.out.mono ?_
  rintro e w3 ⟨tx, e2, rfl, hB3, htx⟩
  have Htx := Lib.hid htx
  clear htx HPr
  have hB13 := hB1.trans (hB3.mono hB1.size)
  clear hB1 hB3
  by_cases he1 : e1 = 0
  · subst he1
    by_cases he2 : e2 = 0
    · subst he2
      go_wp2_with fail
      refine (word_any tag w3 ht).mono ?_
      rintro e w4 ⟨r, rfl, rfl, hw⟩
      cases r with
      | false =>
        go_wp2_with fail
        go_ret
        exact ⟨rfl, hB13⟩
      | true =>
        have hT := Lib.hid (hw rfl)
        clear hw
        go_wp2_with fail
        refine (mild_any box w3 hb).mono ?_
        rintro e w5 ⟨r, rfl, rfl, hm⟩
        cases r with
        | false =>
          go_wp2_with fail
          go_ret
          exact ⟨rfl, hB13⟩
        | true =>
          have hM := Lib.hid (hm rfl)
          clear hm
          by_cases hl : tx.size ≤ 300
          · have hl' : decide ((300 : Int) < (tx.size : Int)) = false := by simp; omega
            -- FROM HERE PRINTED
            have hF := Hcl.out trivial
            have hX := Htx.out trivial
            have ht40 := hT.out.2.1
            have hb40 := hF.1.2.1
            have hBox := Lib.hid (box_ok box hF.1 hM.out)
            have htc := clean_same box t hF.2
            subst htc
            have HR := Lib.hid hX.1
            have Htx2 := Lib.hid hX.2
            have hSet := Lib.hid (set_law n ps hX.1 (by rw [← hX.2, ← size_bytes]; exact hl))
            have hT' := Lib.hid (tag_ok tag hT.out)
            clear hF hX hT Hcl Htx hM
            have hT := hT'
            clear hT'
            go_wp2_with fail
            clear hl'
            go_loopw [11] (fun i wr => ∃ k : Nat, k ≤ 4 ∧ i = .int .i64 k ∧ Below w.heap.size w wr) (fun i _ => 4 - (intOf i).toNat)
            case atStart => exact ⟨0, by omega, rfl, hB13⟩
            case round =>
              clear hB13
              obtain ⟨k, hk, rfl, hB⟩ := hrel
              by_cases hlt : k < 4
              · go_upto_region 12 with fail
                obtain ⟨op, nm, hp1, hp2, hON, hnm⟩ := pick_of k hlt hlt
                rw [hp1, hp2]
                clear hp1 hp2
                · skip
                  go_wp2_with fail
                  refine (parse_atom B _ (tag ++ ⟨#[32]⟩ ++ ⟨nm.toArray⟩ ++ ⟨#[32]⟩ ++ box) box tag.data.toList nm op _ ?_ hT.out hON.out.1 hON.out.2 hBox.out ?_ ?_ ?_).mono ?_
                  · exact HE.out.step ((alloc3 hB _ _ _).mono HE.out.le)
                  · simp
                  · simp only [ByteArray.size_append]; show _ ≤ 2000; have e1 : (⟨#[32]⟩ : ByteArray).size = 1 := rfl; have e2 : (⟨nm.toArray⟩ : ByteArray).size = nm.length := (by rw [size_bytes]); omega
                  · exact cells_at (heap_alloc_at _ _ _ (by simp only [World.size_alloc])) rfl
                  rintro e w4 ⟨rfl, hb4⟩
                  have hB4 : Below w.heap.size w w4 := Below.trans (alloc3 hB _ _ _) (Below.mono hb4 (alloc3 hB _ _ _).size)
                  clear hb4
                  go_wp2_with (
                    refine store_new zeroCmd (cmdC tag.data.toList op (boxCl box) (.slice none 0 0)) _ _ rfl rfl rfl rfl (cmdC_size _ _ _ _) rfl (cmdC_one _ _ _ _ _ _) ?_
                    intro V4 h4 r4 s4
                    have hV4 : Below w.heap.size w V4 := hB4.trans (h4.mono hB4.size)
                    have R4 := Lib.hid r4
                    clear h4 r4 s4)
                  refine (parse_quoted B _ (tag ++ ⟨#[32]⟩ ++ ⟨nm.toArray⟩ ++ ⟨#[32, 34]⟩ ++ box ++ ⟨#[34]⟩) box tag.data.toList nm op _ ?_ hT.out hON.out.1 hON.out.2 hBox.out ?_ ?_ ?_).mono ?_
                  · exact HE.out.step ((alloc1 hV4 _).mono HE.out.le)
                  · simp
                  · simp only [ByteArray.size_append]; show _ ≤ 2000; have e1 : (⟨#[32]⟩ : ByteArray).size = 1 := rfl; have e2 : (⟨nm.toArray⟩ : ByteArray).size = nm.length := (by rw [size_bytes]); have e3 : (⟨#[32, 34]⟩ : ByteArray).size = 2 := rfl; have e4 : (⟨#[34]⟩ : ByteArray).size = 1 := rfl; omega
                  · exact cells_at (heap_alloc_at _ _ _ rfl) rfl
                  rintro e w5 ⟨rfl, hb5⟩
                  have hB5 : Below w.heap.size w w5 := Below.trans (alloc1 hV4 _) (Below.mono hb5 (alloc1 hV4 _).size)
                  have R45 := Lib.hid (carry hb5 R4.out)
                  clear hb5 R4 hB4
                  go_wp2_with (
                    refine store_new zeroCmd (cmdC tag.data.toList op (boxCl box) (.slice none 0 0)) _ _ rfl rfl rfl rfl (cmdC_size _ _ _ _) rfl (cmdC_one _ _ _ _ _ _) ?_
                    intro V5 h5 r5 s5
                    have hV5 : Below w.heap.size w V5 := hB5.trans (h5.mono hB5.size)
                    have R5 := Lib.hid r5
                    have R4 := Lib.hid (carry2 h5 R45.out)
                    clear h5 r5 s5 R45)
                  refine (parse_literal B _ (tag ++ ⟨#[32]⟩ ++ ⟨nm.toArray⟩ ++ ⟨#[32]⟩) box tag.data.toList nm op _ ?_ hT.out hON.out.1 hON.out.2 hBox.out ?_ ?_ ?_ ?_ ?_).mono ?_
                  · exact HE.out.step ((alloc1 hV5 _).mono HE.out.le)
                  rotate_left 2
                  · exact cells_at (heap_alloc_at _ _ _ rfl) rfl
                  · exact cells_at (heap_alloc_at _ _ _ rfl) rfl
                  · exact cells_at (heap_alloc_at _ _ _ rfl) rfl
                  rotate_left 1
                  · simp
                  · simp only [ByteArray.size_append]; show _ ≤ 2000; have e1 : (⟨#[32]⟩ : ByteArray).size = 1 := rfl; have e2 : (⟨nm.toArray⟩ : ByteArray).size = nm.length := (by rw [size_bytes]); omega
                  rintro e w6 ⟨rfl, hb6⟩
                  have hB6 : Below w.heap.size w w6 := Below.trans (alloc1 hV5 _) (Below.mono hb6 (alloc1 hV5 _).size)
                  have R46 := Lib.hid (carry hb6 R4.out)
                  have R56 := Lib.hid (carry hb6 R5.out)
                  clear hb6 R4 R5 hB5
                  go_wp2_with (first
                    | (refine store_new zeroCmd (cmdC tag.data.toList op (boxCl box) (.slice none 0 0)) _ _ rfl rfl rfl rfl (cmdC_size _ _ _ _) rfl (cmdC_one _ _ _ _ _ _) ?_
                       intro V6 h6 r6 s6
                       have hV6 : Below w.heap.size w V6 := hB6.trans (h6.mono hB6.size)
                       have R6 := Lib.hid r6
                       have R4 := Lib.hid (carry2 h6 R46.out)
                       have R5 := Lib.hid (carry2 h6 R56.out)
                       have a0 := cells_at (j := 0) (v := .string tag) R4.out (by show some (Value.string ⟨tag.data.toList.toArray⟩) = _; rw [ext_list tag _ rfl])
                       have a1 := cells_at (j := 1) (v := .int .i64 op) R4.out rfl
                       have a3 := cells_at (j := 3) (v := .string (boxCl box)) R4.out rfl
                       clear h6 r6 s6 R46 R56)
                    | (refine load_row_want _ rfl w4.heap.size rfl (cmdC tag.data.toList op (boxCl box) (.slice none 0 0)) R4.out (cmdC_size _ _ _ _) (by kernel_rfl) ?_)
                    | (refine load_row_want _ rfl w5.heap.size rfl (cmdC tag.data.toList op (boxCl box) (.slice none 0 0)) R5.out (cmdC_size _ _ _ _) (by kernel_rfl) ?_))
                  refine (Same24_plain _ _ _ _).mono ?_
                  rintro e w7 ⟨rfl, hb7⟩
                  have hB7 : Below w.heap.size w w7 := hV6.trans (hb7.mono hV6.size)
                  have R47 := Lib.hid (carry2 hb7 R4.out)
                  have R67 := Lib.hid (carry2 hb7 R6.out)
                  clear hb7 R4 R5 R6 a0 a1 a3
                  go_wp2_with (first
                    | (refine load_row_want _ rfl w4.heap.size rfl (cmdC tag.data.toList op (boxCl box) (.slice none 0 0)) R47.out (cmdC_size _ _ _ _) (by kernel_rfl) ?_)
                    | (refine load_row_want _ rfl w6.heap.size rfl (cmdC tag.data.toList op (boxCl box) (.slice none 0 0)) R67.out (cmdC_size _ _ _ _) (by kernel_rfl) ?_))
                  refine (Same24_plain _ _ _ _).mono ?_
                  rintro e w8 ⟨rfl, hb8⟩
                  have hB8 : Below w.heap.size w w8 := hB7.trans (hb8.mono hB7.size)
                  clear hb8 R47 R67 hB7 hV6 hV5 hV4 hB6
                  go_wp2_with fail
                  go_roundw
                  case rel => exact ⟨k + 1, by omega, by go_num, hB8⟩
                  case measure => simp [intOf]; omega
              · have e : k = 4 := by omega
                subst e
                go_wp2_with fail
                refine (parse_copy B _ (tag ++ ⟨#[32, 67, 79, 80, 89, 32]⟩ ++ tx ++ ⟨#[32]⟩ ++ box) box tag.data.toList [67, 79, 80, 89] (textL n ps n) (rsOf n ps) _ ?_ hT.out op22 hBox.out hSet.out.1 hSet.out.2.1 hSet.out.2.2 ?_ ?_ ?_).mono ?_
                · exact HE.out.step ((alloc1 hB _).mono HE.out.le)
                · simp [← Htx2.out]
                · simp only [ByteArray.size_append]; show _ ≤ 2000; have e1 : (⟨#[32]⟩ : ByteArray).size = 1 := rfl; have e2 : (⟨#[32, 67, 79, 80, 89, 32]⟩ : ByteArray).size = 6 := rfl; omega
                · exact cells_at (heap_alloc_at _ _ _ rfl) rfl
                rintro e w4 ⟨v, rfl, hb4, ho⟩
                have hn1 : 1 ≤ (rsOf n ps).length := by rw [rsOf_length]; exact HR.out.1
                obtain ⟨gb, cap, rfl, hgb, hglt, hrow⟩ := row_of_owns ho hn1
                have hB4 : Below w.heap.size w w4 := Below.trans (alloc1 hB _) (Below.mono hb4 (alloc1 hB _).size)
                have Hrow := Lib.hid hrow
                clear hb4 ho hrow hn1
                rw [rsOf_length] at Hrow
                have hlen := rsOf_length n ps
                rw [hlen]
                clear hlen
                go_wp2_with (
                  refine store_new zeroCmd (cmdC tag.data.toList 22 (boxCl box) (.slice (some ⟨gb, 0, none⟩) n cap)) _ _ rfl rfl rfl rfl (cmdC_size _ _ _ _) rfl (cmdC_one _ _ _ _ _ _) ?_
                  intro V4 h4 r4 s4
                  have hV4 : Below w.heap.size w V4 := hB4.trans (h4.mono hB4.size)
                  have Hr2 := Lib.hid (RowAt.below Hrow.out h4 hglt)
                  have a1 := cells_at (j := 1) (v := .int .i64 22) r4 rfl
                  have a3 := cells_at (j := 3) (v := .string (boxCl box)) r4 rfl
                  have a5 := cells_at (j := 5) (v := .slice (some ⟨gb, 0, none⟩) n cap) r4 rfl
                  clear h4 r4 s4 Hrow)
                refine (Same09_eq gb 0 b o n cap c (rsOf n ps) _ HR.out.2.1 Hr2.out ((row_of_pairs HP.out HR.out).below hV4 (Hbl.out (by have := HR.out.1; omega)))).mono ?_
                rintro e w5 ⟨rfl, hb5⟩
                have hB5 : Below w.heap.size w w5 := hV4.trans (hb5.mono hV4.size)
                go_wp2_with fail
                go_ret
                exact ⟨rfl, hB5⟩
          · have hl' : decide ((300 : Int) < (tx.size : Int)) = true := by simp; omega
            go_wp2_with fail
            go_ret
            exact ⟨rfl, hB13⟩
    · have h2 : (e2 != 0) = true := by rw [bne_iff_ne]; exact he2
      go_wp2_with fail
      go_ret
      exact ⟨rfl, hB13⟩
  · have h2 : (e1 != 0) = true := by rw [bne_iff_ne]; exact he1
    go_wp2_with fail
    go_ret
    exact ⟨rfl, hB13⟩

end Go.Proofs.YtjamgkcmpcnfpaaGreatDoor
