/-
  Parse at the lines of the law's fixed fact.
-/
import Derived.Test.YtjamgkcmpcnfpaaGreatDoorUid
import Derived.Test.YtjamgkcmpcnfpaaGreatDoorTag
namespace Go.Proofs.YtjamgkcmpcnfpaaGreatDoor
open Go.RowKit

/-- a UID STORE 1:3 +FLAGS.SILENT (\Seen) -/
def line1 : ByteArray := ⟨#[97, 32, 85, 73, 68, 32, 83, 84, 79, 82, 69, 32, 49, 58, 51, 32, 43, 70, 76, 65, 71, 83, 46, 83, 73, 76, 69, 78, 84, 32, 40, 92, 83, 101, 101, 110, 41]⟩
/-- b APPEND inbox -/
def line2 : ByteArray := ⟨#[98, 32, 65, 80, 80, 69, 78, 68, 32, 105, 110, 98, 111, 120, 32]⟩
/-- b NOOP -/
def line3 : ByteArray := ⟨#[98, 32, 78, 79, 79, 80, 32]⟩

/-- 1:3 -/
def setL : List UInt8 := [49, 58, 51]

theorem set_ok : SetOk setL [(1, 3)] := by
  refine ⟨by decide, by decide, [setL], rfl, by decide, ?_, rfl, ?_⟩
  · intro x hx; simp at hx; subst hx; decide
  · intro i hi
    obtain rfl : i = 0 := by simpa using hi
    show PartOk setL 1 3
    refine ⟨[49], [51], true, by rfl, .inr ⟨by decide, by rfl, by decide, by decide, by decide, by decide, by decide, by decide⟩, .inr ⟨by decide, by rfl, by decide, by decide, by decide, by decide, by decide, by decide⟩, by decide, by decide⟩

theorem tag_a : TagOk [97] := ⟨by decide, by decide, by decide, by decide⟩
theorem tag_b : TagOk [98] := ⟨by decide, by decide, by decide, by decide⟩

/-- The cells of the first line's command. -/
def cmd1 (A : Option Addr) (c : Nat) : Array Value :=
  #[.string ⟨#[97]⟩, .int .i64 21, .bool true, .string ⟨#[]⟩, .string ⟨#[]⟩, .slice A 1 c, .int .i64 1, .bool true, .int .i64 1, .int .i64 0, .int .i64 0, .string ⟨#[]⟩, .slice none 0 0, .slice none 0 0, .slice none 0 0]

set_option maxRecDepth 10000 in
theorem parse_store (B b : Nat) (w : World) (hE : Env B w) (hc : w.cell? ⟨b, 0, none⟩ = some (.string line1)) :
    Calls Tryz.prog 10 #[.slice (some ⟨b, 0, none⟩) 1 1] w fun e w' => ∃ A c, e = .returned (.tuple #[.agg (cmd1 A c), .int .i64 0]) ∧ Below w.heap.size w w' := by
  have hB9 := hE.nine
  have hBle := hE.le
  obtain ⟨m, hm⟩ := hE.m
  obtain ⟨bm, hl⟩ := hE.look
  obtain ⟨ty, fr, h9⟩ := hE.flags
  have h := parse_one b line1 w (by decide) hc (fun cs => ∃ A c, cs = cmd1 A c) (by rintro cs ⟨A, c, rfl⟩; exact ⟨rfl, by simp [cmd1, Value.oneCell']⟩) _ (stays_true _) (fun g w1 hg hA hb hsz => by
      have hlt1 := hA.lt
      refine command_uid g bm line1 [97] [83, 84, 79, 82, 69] (32 :: (setL ++ tailL)) 21 _ _ w1 hA (by decide) (by decide) tag_a (by decide) (by decide) (by decide) (by decide) (by decide) (by decide)
        (fun W hW => hl W ((hb.mono hE.le).trans (hW.below (by omega) (by omega) (by omega)))) _ (by rintro cs ⟨A, c, rfl⟩; exact ⟨rfl, by simp [cmd1, Value.oneCell']⟩) _ ?_
      intro w2 hA2 hX hK
      have hsz12 := hK.size
      have hxlt := (Array.getElem?_eq_some_iff.1 hX).1
      refine (takes_own g w1.heap.size 21 88 (.inr ⟨rfl, rfl⟩) _ (setL ++ tailL) _ _ w2 (fun w' => ∃ cs, (∃ A c, cs = cmd1 A c) ∧ w'.heap[w1.heap.size]? = some (.cells cs 31 (0, 0)) ∧ Done g (.slice none 0 0) w' ∧ Kept2 g w1.heap.size w2 w' ∧ True) hA2 rfl (by omega) (cells_at hX (by simp [uidC, zeroCmd])) (fun w3 hA3 hK3 => ?_)).mono ?_
      · have hb13 : Below w.heap.size w w3 := hb.trans ((hK.trans (hK3.two _)).below (by omega) (by omega) (by omega))
        have hS := set_any g _ setL tailL [(1, 3)] _ _ m w3 hA3 (by simp) (by decide) (by decide) (by decide) (by decide) set_ok ((hb13.cell (p := ⟨4, 0, none⟩) (by have := hE.four; show 4 < _; omega)).trans hm) (by have := hE.four; omega)
        refine (store_seen g w1.heap.size _ (.slice none 0 0) false 0 0 (.slice (some ⟨b, 0, none⟩) 0 0) (.slice none 0 0) ty fr w3 (by omega) hA3.lt (by omega) (by omega) ((hb13.block 9 (by omega)).trans h9) ((hK3.block _ hxlt (by omega)).trans hX) (by simp [uidC, zeroCmd]) (by simp [uidC, zeroCmd]) (by simp [uidC, zeroCmd]) (by simp [uidC, zeroCmd]) (hS.mono ?_)).mono ?_
        · rintro e w4 ⟨v, rfl, hA4, hK4, ho⟩
          rcases ho.2 with ⟨rfl, hl0⟩ | ⟨g', cap, cur, rfl, _⟩
          · cases hl0
          · exact ⟨_, _, rfl, hA4, hK4⟩
        · rintro e w4 ⟨rfl, A, c, hX4, hA4, hK4⟩
          exact ⟨rfl, _, ⟨A, c, by simp [uidC, zeroCmd, cmd1]⟩, hX4, ⟨_, _, hA4⟩, (hK3.two _).trans hK4, trivial⟩
      · rintro e w4 ⟨rfl, cs, hcs, hX4, hD4, hK4, _⟩
        exact ⟨_, rfl, hcs, hX4, hD4, hK4, trivial⟩)
  refine h.mono ?_
  rintro e w' ⟨cs, rfl, ⟨A, c, rfl⟩, hb, _⟩
  exact ⟨A, c, rfl, hb⟩

theorem parse_noop (B b : Nat) (w : World) (hE : Env B w) (hc : w.cell? ⟨b, 0, none⟩ = some (.string line3)) :
    Calls Tryz.prog 10 #[.slice (some ⟨b, 0, none⟩) 1 1] w fun e w' => e = .returned (.tuple #[.agg zeroCmd, .int .i64 3]) ∧ Below w.heap.size w w' := by
  have hBle := hE.le
  obtain ⟨bm, hl⟩ := hE.look
  refine parse_no b line3 w (by decide) hc (fun g w1 hg hA hb hsz => ?_)
  have hlt1 := hA.lt
  exact command_more g bm line3 [98] [78, 79, 79, 80] [32] _ _ w1 hA ⟨_, _, _, rfl⟩ (by decide) (by decide) (by decide) tag_b.ne tag_b.all tag_b.len tag_b.plus (by decide) (by decide) (by decide) (by decide) (by decide) (by decide)
    (fun W hW => hl W ((hb.mono hE.le).trans (hW.below (by omega) (by omega) (by omega))))

/-- inbox -/
def inboxB : ByteArray := ⟨#[105, 110, 98, 111, 120]⟩

end Go.Proofs.YtjamgkcmpcnfpaaGreatDoor
