/- The program's Scan, of every text; what its tokens are in memory. -/
import Derived.Test.YtpcihajmcejliaaGreatDoorLexScan
namespace Go.Proofs.YtpcihajmcejliaaGreatDoor
open Go.RowKit
namespace lexTells
theorem scan_all (s : ByteArray) (w : World) (hs : s.size ≤ 9223372036854775807) (hv : ErrVar w) (T : List Tok × Int × Nat) (hT : Hid (scanF s.data.toList = T)) :
    Calls Tryz.prog 121 #[.string s] w fun e w' => ∃ v, e = .returned (.tuple #[v, .agg #[.int .i64 T.2.1, .int .i64 T.2.2]]) ∧ w'.ownsRow (w.heap.size + 2) 209 3 v T.1.length (tokCells s T.1) ∧ Ext w w' := by
  by_cases h : s.size ≤ 3000
  · exact lex.scan_any s w h hv T hT
  · have hlen : s.data.toList.length = s.size := by rw [Array.length_toList]; rfl
    have := hT.out
    rw [scanF, if_pos (by omega)] at this
    subst this
    refine (lex.scan_long s w (by omega) hs).mono ?_
    rintro e w' ⟨rfl, hE⟩
    exact ⟨_, rfl, World.ownsRow_nil _ _ _ _, hE⟩
/-- a slice that reads as tokens -/
theorem tok_cells (s : ByteArray) (l : List Tok) : ∀ (i : Nat) (hi : i < l.length), (tokCells s l)[i * 3]? = some (.int .i64 l[i].1) ∧ (tokCells s l)[i * 3 + 1]? = some (.string (s.extract l[i].2.1 (l[i].2.1 + l[i].2.2))) ∧ (tokCells s l)[i * 3 + 2]? = some (.int .i64 l[i].2.1) := by
  induction l with
  | nil => intro i hi; simp at hi
  | cons t r ih =>
    intro i hi
    cases i with
    | zero => simp [tokCells, Tok.cells]
    | succ i =>
      have := ih i (by simpa using hi)
      have e : tokCells s (t :: r) = .int .i64 t.1 :: .string (s.extract t.2.1 (t.2.1 + t.2.2)) :: .int .i64 t.2.1 :: tokCells s r := rfl
      rw [e, show (i + 1) * 3 = i * 3 + 1 + 1 + 1 by omega]
      simpa using this
theorem tokCells_length (s : ByteArray) (l : List Tok) : (tokCells s l).length = l.length * 3 := by
  induction l with
  | nil => rfl
  | cons t r ih =>
    have e : tokCells s (t :: r) = .int .i64 t.1 :: .string (s.extract t.2.1 (t.2.1 + t.2.2)) :: .int .i64 t.2.1 :: tokCells s r := rfl
    rw [e]
    simp [ih]
    omega
theorem scan_length (f : Nat) (l : List UInt8) : ∀ p acc, (scanTok f l p acc).1.length ≤ acc.length + f := by
  induction f with
  | zero => intro p acc; simp [scanTok]
  | succ f ih =>
    intro p acc
    rw [scanTok]
    split
    · simp only
      split
      · have := ih (p + (tokF (l.drop p)).2.1 + skipB false (l.drop (p + (tokF (l.drop p)).2.1))) (acc ++ [((tokF (l.drop p)).1, p, (tokF (l.drop p)).2.1)])
        simp at this
        omega
      · simp
    · simp
end lexTells
end Go.Proofs.YtpcihajmcejliaaGreatDoor
