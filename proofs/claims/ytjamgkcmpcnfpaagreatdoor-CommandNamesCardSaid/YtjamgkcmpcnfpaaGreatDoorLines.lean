/-
  Parse, at the lines that the law builds: a name as an atom, quoted, as a literal; a set and a name.
-/
import Derived.Test.YtjamgkcmpcnfpaaGreatDoorParse
namespace Go.Proofs.YtjamgkcmpcnfpaaGreatDoor
open Go.RowKit

/-- The flags' names and bits. -/
def namedC : Array Value :=
  #[.string ⟨#[92, 65, 110, 115, 119, 101, 114, 101, 100]⟩, .int .i64 2, .string ⟨#[92, 70, 108, 97, 103, 103, 101, 100]⟩, .int .i64 4, .string ⟨#[92, 68, 101, 108, 101, 116, 101, 100]⟩, .int .i64 8,
    .string ⟨#[92, 83, 101, 101, 110]⟩, .int .i64 1, .string ⟨#[92, 68, 114, 97, 102, 116]⟩, .int .i64 16]

/-- What the walks ask of the memory that was there at the start. -/
structure Env (B : Nat) (w : World) : Prop where
  four : 4 < B
  le : B ≤ w.heap.size
  m : ∃ m, w.cell? ⟨4, 0, none⟩ = some (.int .i64 m)
  look : ∃ bm, ∀ W, Below B w W → Look bm W
  nine : 9 < B
  flags : ∃ t fr, w.heap[9]? = some (.cells namedC t fr)

theorem Env.step {B : Nat} {w w' : World} (h : Env B w) (hb : Below B w w') : Env B w' := by
  obtain ⟨m, hm⟩ := h.m
  obtain ⟨bm, hl⟩ := h.look
  obtain ⟨t, fr, hf⟩ := h.flags
  exact ⟨h.four, Nat.le_trans h.le hb.size, ⟨m, (hb.cell (p := ⟨4, 0, none⟩) h.four).trans hm⟩, ⟨bm, fun W hW => hl W (hb.trans hW)⟩, h.nine, ⟨t, fr, (hb.block 9 h.nine).trans hf⟩⟩

theorem Env.kept {B g : Nat} {w w' : World} (h : Env B w) (hk : Kept g w w') (hg : B ≤ g) : Env B w' := h.step (hk.below hg h.le)

theorem atomOr_nil (c : Int) : atomOr [] c = atomB c := by
  unfold atomOr
  have : decide (0 ≤ Lib.indexByte [] c.toNat.toUInt8) = false := rfl
  rw [this, Bool.or_false]

theorem box_atom (B g : Nat) (s : ByteArray) (a : Option Addr) (c : Nat) (kv : Value) (w : World) (hE : Env B w) (hg : B ≤ g) (hA : At g w ⟨s.data.toList.toArray⟩ (.slice a 0 c) kv) (h : NameOk s) (hne : s.data.toList ≠ []) (hat : allB atomB s.data.toList = true) :
    Calls Tryz.prog 81 #[PP g] w fun e w' => e = .returned (.string ⟨(cleanL s.data.toList).toArray⟩) ∧ Done g kv w' ∧ Kept g w w' := by
  obtain ⟨m, hm⟩ := hE.m
  have hat' : allB (atomOr []) s.data.toList = true := by
    unfold allB at hat ⊢; rw [List.all_eq_true] at hat ⊢; intro x hx; rw [atomOr_nil]; exact hat x hx
  have e0 : (⟨s.data.toList.toArray⟩ : ByteArray) = s := ext_list s _ rfl
  have hS := str_atom g ⟨s.data.toList.toArray⟩ ⟨#[]⟩ s.data.toList [] a 0 c kv w hA (by simp) (by rw [e0]; have := h.formed.size; omega) hne hat' rfl (by decide)
  rw [e0] at hS
  refine (box_of g s m w (fun w' => At g w' ⟨#[]⟩ (.slice a 0 c) kv ∧ Kept g w w') hS (fun w' hq => hq.2) hm (by have := hE.four; omega) h).mono ?_
  rintro e w' ⟨rfl, w1, ⟨hA1, hK1⟩, hB1⟩
  exact ⟨rfl, ⟨a, c, hA1.of_below hB1 hA1.lt⟩, hK1.andBelow hB1 hK1.size⟩

theorem box_quoted (B g : Nat) (s t : ByteArray) (a : Option Addr) (c : Nat) (kv : Value) (w : World) (hE : Env B w) (hg : B ≤ g) (hA : At g w t (.slice a 0 c) kv) (ht : t.data.toList = 34 :: (s.data.toList ++ [34])) (h : NameOk s) (hq : allB qB s.data.toList = true) :
    Calls Tryz.prog 81 #[PP g] w fun e w' => e = .returned (.string ⟨(cleanL s.data.toList).toArray⟩) ∧ Done g kv w' ∧ Kept g w w' := by
  obtain ⟨m, hm⟩ := hE.m
  have hS := str_quoted g t ⟨#[]⟩ s.data.toList [] (.slice a 0 c) kv w hA ht (by rw [size_bytes, ht]; have := h.formed.size; simp only [List.length_cons, List.length_append, List.length_nil]; rw [← size_bytes]; omega) hq
  have e0 : (⟨s.data.toList.toArray⟩ : ByteArray) = s := ext_list s _ rfl
  rw [e0] at hS
  refine (box_of g s m w (fun w' => At g w' ⟨#[]⟩ (.slice a 0 c) kv ∧ Kept g w w') hS (fun w' hq => hq.2) hm (by have := hE.four; omega) h).mono ?_
  rintro e w' ⟨rfl, w1, ⟨hA1, hK1⟩, hB1⟩
  exact ⟨rfl, ⟨a, c, hA1.of_below hB1 hA1.lt⟩, hK1.andBelow hB1 hK1.size⟩

theorem box_literal (B g : Nat) (s t : ByteArray) (rb ro c : Nat) (kv : Value) (w : World) (hE : Env B w) (hg : B ≤ g) (hA : At g w t (.slice (some ⟨rb, ro, none⟩) 2 c) kv) (ht : t.data.toList = []) (hc : 2 ≤ c) (hmax : c ≤ 9223372036854775807)
    (hr0 : w.cell? ⟨rb, ro, none⟩ = some (.string s)) (hr1 : w.cell? ⟨rb, ro + 1, none⟩ = some (.string ⟨#[]⟩)) (hne : rb ≠ g) (h : NameOk s) :
    Calls Tryz.prog 81 #[PP g] w fun e w' => e = .returned (.string ⟨(cleanL s.data.toList).toArray⟩) ∧ Done g kv w' ∧ Kept g w w' := by
  obtain ⟨m, hm⟩ := hE.m
  have hS := str_literal g t ⟨#[]⟩ s ⟨#[]⟩ rb ro 2 c kv w hA ht (Nat.le_refl _) hc hmax hr0 hr1 hne
  refine (box_of g s m w (fun w' => (∃ a', At g w' ⟨#[]⟩ (.slice a' 0 (c - 2)) kv) ∧ Kept g w w') hS (fun w' hq => hq.2) hm (by have := hE.four; omega) h).mono ?_
  rintro e w' ⟨rfl, w1, ⟨⟨a', hA1⟩, hK1⟩, hB1⟩
  exact ⟨rfl, ⟨a', c - 2, hA1.of_below hB1 hA1.lt⟩, hK1.andBelow hB1 hK1.size⟩

/-- A command's cells. -/
def cmdC (tag : List UInt8) (op : Int) (cl : ByteArray) (sv : Value) : Array Value :=
  #[.string ⟨tag.toArray⟩, .int .i64 op, .bool false, .string cl, .string ⟨#[]⟩, sv, .int .i64 0, .bool false, .int .i64 0, .int .i64 0, .int .i64 0, .string ⟨#[]⟩, .slice none 0 0, .slice none 0 0, .slice none 0 0]

/-- A tag that a command may have. -/
structure TagOk (tag : List UInt8) : Prop where
  ne : tag ≠ []
  all : allB (atomOr [93]) tag = true
  len : tag.length ≤ 40
  plus : Lib.indexByte tag 43 < 0

/-- The name of a command. -/
structure OpOk (nm : List UInt8) (op : Int) : Prop where
  ne : nm ≠ []
  all : allB nameB nm = true
  look : (smallL nm, op) ∈ opsT
  op : op ≠ 0
  uid : smallL nm ≠ [117, 105, 100]

set_option maxRecDepth 10000 in
/-- What the reading gives at a command that takes a name alone. -/
theorem gives_box (B : Nat) (p0 : ByteArray) (tag nm r : List UInt8) (op : Int) (cl : ByteArray) (rv : Value) (w : World) (hE : Env B w) (hp : p0.data.toList = tag ++ 32 :: (nm ++ 32 :: r)) (hs : p0.size ≤ 2000)
    (hT : TagOk tag) (hO : OpOk nm op) (hop : op = 5 ∨ op = 7 ∨ op = 8 ∨ op = 10)
    (hBox : ∀ g w1, w.heap.size ≤ g → At g w1 ⟨r.toArray⟩ rv (.slice none 0 0) → Below w.heap.size w w1 → Calls Tryz.prog 81 #[PP g] w1 fun e w' => e = .returned (.string cl) ∧ Done g (.slice none 0 0) w' ∧ Kept g w1 w') :
    Gives p0 rv w (fun cs => cs = cmdC tag op cl (.slice none 0 0)) (fun _ _ => True) := by
  intro g w1 hg hA hb hsz
  obtain ⟨bm, hl⟩ := hE.look
  refine command_plain g bm p0 tag nm (32 :: r) op rv _ w1 hA hp (by omega) hT.ne hT.all hT.len hT.plus hO.ne hO.all rfl hO.look hO.op hO.uid (fun W hW => hl W ((hb.mono hE.le).trans (hW.below (Nat.le_trans hE.le hg) (by have := hE.le; omega) (by have := hE.le; omega))))
    _ (by rintro cs rfl; exact ⟨rfl, by simp [cmdC, Value.oneCell']⟩) _ ?_
  intro w2 hA2 hX hK
  have hlt := hA.lt
  refine (takes_box2 g w1.heap.size op hop _ cl ⟨#[]⟩ _ r rv _ w2 hA2 rfl (by omega) hX (by simp [zeroCmd]) (by simp [zeroCmd]) (fun w3 hA3 hK3 => hBox g w3 hg hA3 (hb.trans ((hK.trans hK3).below (by omega) (by omega) (by omega))))).mono ?_
  rintro e w3 ⟨rfl, hX3, hD, hK3⟩
  exact ⟨_, rfl, by simp [zeroCmd, cmdC], hX3, hD, hK3, trivial⟩

set_option maxRecDepth 10000 in
/-- What the reading gives at a copy. -/
theorem gives_copy (B : Nat) (p0 : ByteArray) (tag nm r r2 : List UInt8) (rs : List (Nat × Nat)) (cl : ByteArray) (rv : Value) (w : World) (hE : Env B w) (hp : p0.data.toList = tag ++ 32 :: (nm ++ 32 :: r)) (hs : p0.size ≤ 2000)
    (hT : TagOk tag) (hO : OpOk nm 22)
    (hSet : ∀ g w1, w.heap.size ≤ g → At g w1 ⟨r.toArray⟩ rv (.slice none 0 0) → Below w.heap.size w w1 → Calls Tryz.prog 79 #[PP g] w1 fun e w' => ∃ v, e = .returned v ∧ At g w' ⟨(32 :: r2).toArray⟩ rv (.slice none 0 0) ∧ Kept g w1 w' ∧ w'.ownsRow w1.heap.size 64 2 v rs.length (rcells rs))
    (hBox : ∀ g w1, w.heap.size ≤ g → At g w1 ⟨r2.toArray⟩ rv (.slice none 0 0) → Below w.heap.size w w1 → Calls Tryz.prog 81 #[PP g] w1 fun e w' => e = .returned (.string cl) ∧ Done g (.slice none 0 0) w' ∧ Kept g w1 w') :
    Gives p0 rv w (fun cs => ∃ A n c, cs = cmdC tag 22 cl (.slice A n c)) (fun cs W => ∃ v, cs = cmdC tag 22 cl v ∧ W.ownsRow (w.heap.size + 4) 64 2 v rs.length (rcells rs)) := by
  intro g w1 hg hA hb hsz
  obtain ⟨bm, hl⟩ := hE.look
  refine command_plain g bm p0 tag nm (32 :: r) 22 rv _ w1 hA hp (by omega) hT.ne hT.all hT.len hT.plus hO.ne hO.all rfl hO.look hO.op hO.uid (fun W hW => hl W ((hb.mono hE.le).trans (hW.below (Nat.le_trans hE.le hg) (by have := hE.le; omega) (by have := hE.le; omega))))
    _ (by rintro cs ⟨A, n, c, rfl⟩; exact ⟨rfl, by simp [cmdC, Value.oneCell']⟩) _ ?_
  intro w2 hA2 hX hK
  have hlt := hA.lt
  refine (takes_copy g w1.heap.size _ cl ⟨#[]⟩ (.slice none 0 0) _ rs r r2 rv _ w2 hA2 rfl (by omega) hX (by simp [zeroCmd]) (by simp [zeroCmd]) (by simp [zeroCmd])
    (fun w3 hA3 hK3 => hSet g w3 hg hA3 (hb.trans ((hK.trans hK3).below (by omega) (by omega) (by omega))))
    (fun w3 hA3 hK3 => hBox g w3 hg hA3 (hb.trans ((hK.trans hK3).below (by omega) (by omega) (by omega))))).mono ?_
  rintro e w3 ⟨v, rfl, hX3, hD, hK3, ho⟩
  have hv : ∃ A n c, v = .slice A n c := by
    rcases ho.2 with ⟨rfl, h⟩ | ⟨g, cap, cur, hv, _⟩
    · exact ⟨none, 0, 0, rfl⟩
    · exact ⟨_, _, _, hv⟩
  obtain ⟨A, n, c, rfl⟩ := hv
  have hcs : ((((zeroCmd.setIfInBounds 0 (.string ⟨tag.toArray⟩)).setIfInBounds 1 (.int .i64 22)).setIfInBounds 5 (.slice A n c)).setIfInBounds 3 (.string cl)) = cmdC tag 22 cl (.slice A n c) := by simp [zeroCmd, cmdC]
  rw [hcs] at hX3
  exact ⟨_, rfl, ⟨A, n, c, rfl⟩, hX3, hD, hK3, _, rfl, ownsRow_weaken ho (by have := hK.size; omega)⟩

end Go.Proofs.YtjamgkcmpcnfpaaGreatDoor
