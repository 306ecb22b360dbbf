/- The walk of the law LexTells: both Scans come to one list of tokens and one fault. -/
import Derived.Test.YtpcihajmcejliaaDoorLexRScan
namespace Go.Proofs.YtpcihajmcejliaaDoor
open Go.RowKit
namespace lexTells
theorem scan_all (s : ByteArray) (w : World) (hs : s.size ≤ 9223372036854775807) (hv : ErrVar w) (T : List Tok × Int × Nat) (hT : Hid (scanF s.data.toList = T)) :
    Calls Tryd.prog 6 #[.string s] w fun e w' => ∃ v, e = .returned (.tuple #[v, .agg #[.int .i64 T.2.1, .int .i64 T.2.2]]) ∧ w'.ownsRow (w.heap.size + 2) 29 3 v T.1.length (tokCells s T.1) ∧ Ext w w' := by
  by_cases h : s.size ≤ 3000
  · exact lex.scan_any s w h hv T hT
  · have hlen : s.data.toList.length = s.size := by rw [Array.length_toList]; rfl
    have := hT.out
    rw [scanF, if_pos (by omega)] at this
    subst this
    refine (lex.scan_long s w (by omega) hs).mono ?_
    rintro e w' ⟨rfl, hE⟩
    exact ⟨_, rfl, World.ownsRow_nil _ _ _ _, hE⟩
theorem rscan_all (s : ByteArray) (w : World) (hs : s.size ≤ 9223372036854775807) (T : List Tok × Int × Nat) (hT : Hid (scanF s.data.toList = T)) :
    Calls Tryd.prog 7 #[.string s] w fun e w' => ∃ v, e = .returned (.tuple #[v, .agg #[.int .i64 T.2.1, .int .i64 T.2.2]]) ∧ w'.ownsRow (w.heap.size + 1) 29 3 v T.1.length (tokCells s T.1) ∧ Ext w w' := by
  by_cases h : s.size ≤ 3000
  · exact rlex.scan_any s w h T hT
  · have hlen : s.data.toList.length = s.size := by rw [Array.length_toList]; rfl
    have := hT.out
    rw [scanF, if_pos (by omega)] at this
    subst this
    refine (rlex.scan_long s w (by omega) hs).mono ?_
    rintro e w' ⟨rfl, hE⟩
    exact ⟨_, rfl, World.ownsRow_nil _ _ _ _, hE⟩
/-- a slice that reads as tokens -/
theorem tok_cells (s : ByteArray) (l : List Tok) : ∀ (i : Nat) (hi : i < l.length), (tokCells s l)[i * 3]? = some (.int .i64 l[i].1) ∧ (tokCells s l)[i * 3 + 1]? = some (.string (s.extract l[i].2.1 (l[i].2.1 + l[i].2.2))) ∧ (tokCells s l)[i * 3 + 2]? = some (.int .i64 l[i].2.1) := by
  induction l with
  | nil => intro i hi; simp at hi
  | cons t r ih =>
    intro i hi
    cases i with
    | zero => simp [tokCells, Tok.cells]
    | succ i =>
      have := ih i (by simpa using hi)
      have e : tokCells s (t :: r) = .int .i64 t.1 :: .string (s.extract t.2.1 (t.2.1 + t.2.2)) :: .int .i64 t.2.1 :: tokCells s r := rfl
      rw [e, show (i + 1) * 3 = i * 3 + 1 + 1 + 1 by omega]
      simpa using this
theorem tokCells_length (s : ByteArray) (l : List Tok) : (tokCells s l).length = l.length * 3 := by
  induction l with
  | nil => rfl
  | cons t r ih =>
    have e : tokCells s (t :: r) = .int .i64 t.1 :: .string (s.extract t.2.1 (t.2.1 + t.2.2)) :: .int .i64 t.2.1 :: tokCells s r := rfl
    rw [e]
    simp [ih]
    omega
theorem scan_length (f : Nat) (l : List UInt8) : ∀ p acc, (scanTok f l p acc).1.length ≤ acc.length + f := by
  induction f with
  | zero => intro p acc; simp [scanTok]
  | succ f ih =>
    intro p acc
    rw [scanTok]
    split
    · simp only
      split
      · have := ih (p + (tokF (l.drop p)).2.1 + skipB false (l.drop (p + (tokF (l.drop p)).2.1))) (acc ++ [((tokF (l.drop p)).1, p, (tokF (l.drop p)).2.1)])
        simp at this
        omega
      · simp
    · simp
set_option maxRecDepth 100000 in
set_option maxHeartbeats 2000000 in
theorem walk (s : ByteArray) (w : World) (hs : s.size ≤ 9223372036854775807) (hv : ErrVar w) :
    Calls Tryd.prog 3 #[.string s] w fun e w' => e = .returned (.bool true) ∧ Ext w w' := by
  obtain ⟨T, hT⟩ : ∃ T, scanF s.data.toList = T := ⟨_, rfl⟩
  have C1 := Lib.hid (fun w hv => scan_all s w hs hv T hT)
  have C2 := Lib.hid (fun w => rscan_all s w hs T hT)
  have hn : T.1.length ≤ 3001 := by
    rw [← hT, scanF]
    split
    · simp
    · have := scan_length (s.data.toList.length + 1) s.data.toList (skipB false s.data.toList) []
      simp only [List.length_nil] at this
      omega
  obtain ⟨l, c, a⟩ := T
  simp only at C1 C2 hn
  obtain ⟨n, hn0⟩ : ∃ n, l.length = n := ⟨_, rfl⟩
  rw [hn0] at C1 C2 hn
  have HN := Lib.hid hn0
  clear hT hn0
  go_enter Tryd.func3, Tryd.ntmps3
  go_wp2_with fail
  refine (C1.out _ hv).mono ?_
  rintro e w1 ⟨v1, rfl, ho1, hE1⟩
  go_wp2_with fail
  refine (C2.out _).mono ?_
  rintro e w2 ⟨v2, rfl, ho2, hE2⟩
  have hE := ((hE1.alloc _).ext hE2)
  have ho1' := ownsRow_ext (ho1.alloc _) hE2
  have hK := (Blk.made w1 _ _).ext hE2
  have hKc := hK.cell
  have hKf := hK.frozen
  have hl12 := hK.lt
  have hH1 := Lib.hid ho1'
  have hH2 := Lib.hid ho2
  rcases ho1'.2 with ⟨rfl, hz⟩ | ⟨g1, cap1, cur1, rfl, hg1, hh1, hr1⟩
  · subst hz
    clear ho1 ho1' hH1
    rcases ho2.2 with ⟨rfl, _⟩ | ⟨g2, cap2, cur2, rfl, hg2, hh2, hr2⟩
    · clear ho2 hH2
      go_wp2_with fail
      go_loopw [7] (fun i wr => i = .int .i64 0 ∧ Ext w wr) (fun i wr => 0)
      case atStart => exact ⟨rfl, hE.alloc _⟩
      case round =>
        obtain ⟨rfl, hEr⟩ := hrel
        go_wp2_with fail
        go_ret
        exact ⟨rfl, hEr⟩
    · clear ho2 hH2 hh2 hr2
      go_wp2_with fail
      go_loopw [7] (fun i wr => i = .int .i64 0 ∧ Ext w wr) (fun i wr => 0)
      case atStart => exact ⟨rfl, hE.alloc _⟩
      case round =>
        obtain ⟨rfl, hEr⟩ := hrel
        go_wp2_with fail
        go_ret
        exact ⟨rfl, hEr⟩
  · rcases ho2.2 with ⟨rfl, hz⟩ | ⟨g2, cap2, cur2, rfl, hg2, hh2, hr2⟩
    · subst hz
      clear ho1 ho1' hH1 hh1 hr1 ho2 hH2
      go_wp2_with fail
      go_loopw [7] (fun i wr => i = .int .i64 0 ∧ Ext w wr) (fun i wr => 0)
      case atStart => exact ⟨rfl, hE.alloc _⟩
      case round =>
        obtain ⟨rfl, hEr⟩ := hrel
        go_wp2_with fail
        go_ret
        exact ⟨rfl, hEr⟩
    · have hb1 : g1 < w2.heap.size := (ho1'.lt g1 rfl).2
      have hb2 : g2 < w2.heap.size := (ho2.lt g2 rfl).2
      clear ho1 ho1' ho2 hh1 hr1 hh2 hr2
      go_wp2_with fail
      go_loopw [7] (fun i wr => ∃ k : Nat, k ≤ n ∧ i = .int .i64 k ∧ Ext w wr ∧ Ext w2 wr) (fun i wr => n - (intOf i).toNat)
      case atStart => exact ⟨0, Nat.zero_le _, rfl, hE.alloc _, (Chg.refl _ _).alloc _⟩
      case round =>
        obtain ⟨k, hk, rfl, hEr, hE2r⟩ := hrel
        by_cases hlt : k < n
        · have hki : (k : Int) < (n : Int) := by omega
          obtain ⟨t0, t1, t2⟩ := tok_cells s l k (by rw [HN.out]; exact hlt)
          have a0 := ((hH1.out.cellAt (k * 3) (by omega)).trans t0)
          have a1 := ((hH1.out.cellAt (k * 3 + 1) (by omega)).trans t1)
          have a2 := ((hH1.out.cellAt (k * 3 + 2) (by omega)).trans t2)
          have b0 := ((hH2.out.cellAt (k * 3) (by omega)).trans t0)
          have b1 := ((hH2.out.cellAt (k * 3 + 1) (by omega)).trans t1)
          have b2 := ((hH2.out.cellAt (k * 3 + 2) (by omega)).trans t2)
          rw [← hE2r.cell (by exact hb1) id] at a0 a1 a2
          rw [← hE2r.cell (by exact hb2) id] at b0 b1 b2
          generalize l[k]'(by rw [HN.out]; exact hlt) = t at *
          obtain ⟨kd, p, m⟩ := t
          simp only at a0 a1 a2 b0 b1 b2
          clear t0 t1 t2 hKc hKf hK
          go_wp2_with fail
          go_quiet (fail)
          go_wp2_with fail
          go_roundw
          case rel => exact ⟨k + 1, by omega, by go_num, hEr.drewN _, hE2r.drewN _⟩
          case measure => simp [intOf]; omega
        · obtain rfl : k = n := by omega
          go_wp2_with fail
          go_ret
          exact ⟨rfl, hEr⟩
end lexTells
end Go.Proofs.YtpcihajmcejliaaDoor
