/-
  The parser's 'set'.
-/
import Derived.Test.YtjamgkcmpcnfpaaGreatDoorUids
namespace Go.Proofs.YtjamgkcmpcnfpaaGreatDoor
open Go.RowKit

/-- A text of ranges that is taken. -/
structure SetOk (a : List UInt8) (rs : List (Nat × Nat)) : Prop where
  size : a.length ≤ 2000
  len : rs.length ≤ 60
  ex : ∃ parts : List (List UInt8), a = joinC 44 parts ∧ parts ≠ [] ∧ (∀ x ∈ parts, (44 : UInt8) ∉ x) ∧ ∃ hl : parts.length = rs.length, ∀ i (hi : i < parts.length), PartOk parts[i] (rs[i]'(by omega)).1 (rs[i]'(by omega)).2

set_option maxHeartbeats 1000000 in
theorem set_any (g : Nat) (t : ByteArray) (a b : List UInt8) (rs : List (Nat × Nat)) (rv kv : Value) (m : Int) (w : World) (hA : At g w t rv kv) (ht : t.data.toList = a ++ b) (hs : t.size ≤ 9223372036854775807) (hpos : a ≠ [])
    (ha : allB (atomOr [42]) a = true) (hb : stopB (atomOr [42]) b = true) (hset : SetOk a rs) (hM : w.cell? ⟨4, 0, none⟩ = some (.int .i64 m)) (hg4 : 4 ≠ g) :
    Calls Tryz.prog 79 #[PP g] w fun e w' => ∃ v, e = .returned v ∧ At g w' ⟨b.toArray⟩ rv kv ∧ Kept g w w' ∧ w'.ownsRow w.heap.size 64 2 v rs.length (rcells rs) := by
  have hc := atom_any g t ⟨#[42]⟩ a b rv kv w hA ht hs hpos ha hb
  obtain ⟨hsz, h60, parts, rfl, hne, hno, hl, hok⟩ := hset
  have h4 : 4 < w.heap.size := World.block_lt_of_cell? _ _ hM
  have hU := fun (w1 : World) (hk : Kept g w w1) => uidsParse_any ⟨(joinC 44 parts).toArray⟩ parts rs m w1 (by simp) (by rw [size_bytes]; simpa using hsz) hne hno hl h60 hok ((hk.cell (p := ⟨4, 0, none⟩) h4 hg4).trans hM) (Nat.lt_of_lt_of_le h4 hk.size)
  have Hc := Lib.hid hc; clear hc
  have HU := Lib.hid hU; clear hU
  clear ht ha hb hpos hs hok hl hno hne hM
  go_enter Tryz.func79, Tryz.ntmps79
  go_wp2_with fail
  refine Hc.out.mono ?_
  rintro e w1 ⟨rfl, hA1, hK1⟩
  go_wp2_with fail
  refine (HU.out w1 hK1).mono ?_
  rintro e w2 ⟨⟨v, rfl, ho⟩, hB⟩
  go_wp2_with fail
  refine (must_yes _).mono ?_
  rintro e w3 ⟨rfl, rfl⟩
  go_wp2_with fail
  go_ret
  exact ⟨v, rfl, hA1.of_below hB hA1.lt, hK1.andBelow hB hK1.size, ownsRow_weaken ho hK1.size⟩

end Go.Proofs.YtjamgkcmpcnfpaaGreatDoor
