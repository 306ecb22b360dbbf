/- The walk of the law LexAgain. -/
import Derived.Test.YtpcihajmcejliaaDoorLexAgainMath
namespace Go.Proofs.YtpcihajmcejliaaDoor
open Go.RowKit
namespace lexAgain
def jb (s : ByteArray) (l : List Tok) : ByteArray := l.foldl (fun a t => a ++ s.extract t.2.1 (t.2.1 + t.2.2) ++ ⟨#[32]⟩) ⟨#[]⟩
theorem jb_snoc (s : ByteArray) (l : List Tok) (k : Nat) (hk : k < l.length) : jb s (l.take (k + 1)) = jb s (l.take k) ++ s.extract l[k].2.1 (l[k].2.1 + l[k].2.2) ++ ⟨#[32]⟩ := by
  unfold jb
  rw [List.take_succ_eq_append_getElem hk, List.foldl_append]
  rfl
theorem jb_list (s : ByteArray) (l : List Tok) : (jb s l).data.toList = again.joinL s.data.toList l := by
  have key : ∀ (l : List Tok) (a : ByteArray), (l.foldl (fun a t => a ++ s.extract t.2.1 (t.2.1 + t.2.2) ++ ⟨#[32]⟩) a).data.toList = a.data.toList ++ again.joinL s.data.toList l := by
    intro l
    induction l with
    | nil => intro a; simp [again.joinL]
    | cons t r ih =>
      intro a
      rw [List.foldl_cons, ih]
      simp only [ByteArray.data_append, Array.toList_append, lex.extract_list, again.joinL, again.text, List.append_assoc]
      rfl
  have := key l ⟨#[]⟩
  simpa [jb] using this
theorem jb_size (s : ByteArray) (l : List Tok) (k : Nat) (hb : (again.joinL s.data.toList l).length ≤ 2000) : (jb s (l.take k)).size ≤ 2000 := by
  have e : (jb s (l.take k)).size = (jb s (l.take k)).data.toList.length := by rw [Array.length_toList]; rfl
  rw [e, jb_list]
  have hsplit : again.joinL s.data.toList l = again.joinL s.data.toList (l.take k) ++ again.joinL s.data.toList (l.drop k) := by
    have key : ∀ a b, again.joinL s.data.toList (a ++ b) = again.joinL s.data.toList a ++ again.joinL s.data.toList b := by
      intro a b
      induction a with
      | nil => rfl
      | cons t r ih => simp [again.joinL, ih]
    rw [← key, List.take_append_drop]
  rw [hsplit, List.length_append] at hb
  omega
theorem scan_code (l : List UInt8) : (scanF l).2.1 ≠ 0 → (scanF l).1 = [] := by
  have key : ∀ (f p : Nat) (acc : List Tok), (scanTok f l p acc).2.1 ≠ 0 → (scanTok f l p acc).1 = [] := by
    intro f
    induction f with
    | zero => intro p acc h; rfl
    | succ f ih =>
      intro p acc h
      rw [scanTok] at h ⊢
      split at h
      · rename_i hp
        rw [if_pos hp]
        simp only at h ⊢
        split at h
        · rename_i he
          rw [if_pos he]
          exact ih _ _ h
        · rename_i he
          rw [if_neg he]
      · simp at h
  unfold scanF
  split
  · intro _; rfl
  · exact key _ _ _
theorem text_eq (s J : ByteArray) (t u : Tok) (h : again.text J.data.toList u = again.text s.data.toList t) : J.extract u.2.1 (u.2.1 + u.2.2) = s.extract t.2.1 (t.2.1 + t.2.2) := by
  apply ByteArray.ext
  apply Array.ext'
  rw [lex.extract_list, lex.extract_list]
  exact h
theorem one_a : scanF [97] = ([(1, 0, 1)], 0, 0) := by decide
set_option maxRecDepth 100000 in
set_option maxHeartbeats 2000000 in
theorem walk (s : ByteArray) (w : World) (hs : s.size ≤ 9223372036854775807) (hv : ErrVar w) :
    Calls Tryd.prog 4 #[.string s] w fun e w' => e = .returned (.bool true) ∧ Ext w w' := by
  have C0 := Lib.hid (fun w hv => lexTells.scan_all ⟨#[97]⟩ w (by decide) hv _ one_a)
  obtain ⟨T, hT⟩ : ∃ T, scanF s.data.toList = T := ⟨_, rfl⟩
  have C1 := Lib.hid (fun w hv => lexTells.scan_all s w hs hv T hT)
  have hcode := scan_code s.data.toList
  rw [hT] at hcode
  have HT := Lib.hid hT
  obtain ⟨l, c, a⟩ := T
  simp only at C1 hcode
  go_enter Tryd.func4, Tryd.ntmps4
  go_wp2_with fail
  refine (C0.out _ hv).mono ?_
  rintro e w1 ⟨v0, rfl, ho0, hE0⟩
  obtain ⟨g0, cap0, rfl⟩ : ∃ g cap, v0 = .slice (some ⟨g, 0, none⟩) 1 cap := by
    rcases ho0.2 with ⟨_, h⟩ | ⟨g, cap, cur, rfl, _⟩
    · cases h
    · exact ⟨g, cap, rfl⟩
  clear ho0 hT
  by_cases hlong : 1000 < s.size
  · go_wp2_with fail
    go_ret
    exact ⟨rfl, hE0.alloc _⟩
  · go_wp2_with fail
    refine (C1.out _ (hv.ext (hE0.alloc _))).mono ?_
    rintro e w2 ⟨v1, rfl, ho1, hE1⟩
    have hE := (hE0.alloc _).ext hE1
    by_cases hc : c = 0
    · subst hc
      obtain ⟨hgood, hJ, hscan⟩ := again.scan_again s.data.toList (by rw [Array.length_toList]; exact Nat.not_lt.1 hlong) l a HT.out
      have C2 := Lib.hid (fun w hv => lexTells.scan_all (jb s l) w (by have := jb_size s l l.length hJ; rw [List.take_length] at this; omega) hv (again.placed 0 l, 0, 0) (by unfold Hid; rw [jb_list]; exact hscan))
      have hpl := again.placed_length l 0
      simp only [hpl] at C2
      have HJS := Lib.hid (jb_size s l · hJ)
      have HPT := Lib.hid (again.placed_text s.data.toList (again.joinL s.data.toList l) l 0 hgood rfl)
      have HSN := Lib.hid (jb_snoc s l)
      have hl12 := ho1.lt
      clear hcode hgood hJ hscan
      have hn1 : l.length ≤ 3001 := by
        have := HT.out
        rw [scanF] at this
        split at this
        · cases this
        · have h2 := lexTells.scan_length (s.data.toList.length + 1) s.data.toList (skipB false s.data.toList) []
          rw [this] at h2
          simp only [List.length_nil, Array.length_toList] at h2
          have e : s.data.size = s.size := rfl
          first | omega | (rw [e] at h2; omega)
      obtain ⟨n, hn⟩ : ∃ n, l.length = n := ⟨_, rfl⟩
      have HN := Lib.hid hn
      rw [hn] at C2 ho1 hn1
      clear hn
      have hH1 := Lib.hid ho1
      rcases ho1.2 with ⟨rfl, hz⟩ | ⟨g1, cap1, cur1, rfl, hg1, hh1, hr1⟩
      · subst hz
        obtain rfl : l = [] := List.length_eq_zero_iff.1 HN.out
        clear ho1 hH1 hl12 hn1
        go_wp2_with fail
        go_loopw [7, 8] (fun st i wr => i = .int .i64 0 ∧ st = .string ⟨#[]⟩ ∧ Ext w wr) (fun _ i wr => 0)
        case atStart => exact ⟨rfl, rfl, hE.alloc _⟩
        case round =>
          obtain ⟨rfl, rfl, hEr⟩ := hrel
          go_wp2_with fail
          refine (C2.out _ (hv.ext hEr)).mono ?_
          rintro e w3 ⟨v2, rfl, ho2, hE3⟩
          have hE4 := hEr.ext hE3
          have hlen : ∃ g cap, v2 = .slice g 0 cap := by
            rcases ho2.2 with ⟨rfl, _⟩ | ⟨g, cap, cur, rfl, _⟩
            · exact ⟨_, _, rfl⟩
            · exact ⟨_, _, rfl⟩
          obtain ⟨g, cap, rfl⟩ := hlen
          clear ho2
          go_wp2_with fail
          go_loopw [11] (fun i wr => i = .int .i64 0 ∧ Ext w wr) (fun i wr => 0)
          case atStart => exact ⟨rfl, hE4.alloc _⟩
          case round =>
            obtain ⟨rfl, hEr4⟩ := hrel
            go_wp2_with fail
            go_ret
            exact ⟨rfl, hEr4⟩
      · have hb1 : g1 < w2.heap.size := (hl12 g1 rfl).2
        clear ho1 hh1 hr1 hl12
        go_wp2_with fail
        go_loopw [7, 8] (fun st i wr => ∃ k : Nat, k ≤ n ∧ i = .int .i64 k ∧ st = .string (jb s (l.take k)) ∧ Ext w wr ∧ Ext w2 wr) (fun _ i wr => n - (intOf i).toNat)
        case atStart => exact ⟨0, Nat.zero_le _, rfl, rfl, hE.alloc _, (Chg.refl _ _).alloc _⟩
        case round =>
          obtain ⟨k, hk, rfl, rfl, hEr, hE2r⟩ := hrel
          have hjs := HJS.out k
          by_cases hlt : k < n
          · have hki : (k : Int) < (n : Int) := by omega
            have hkl : k < l.length := by rw [HN.out]; exact hlt
            obtain ⟨t0, t1, t2⟩ := lexTells.tok_cells s l k hkl
            have a1 := ((hH1.out.cellAt (k * 3 + 1) (by omega)).trans t1)
            rw [← hE2r.cell (by exact hb1) id] at a1
            have hsn := HSN.out k hkl
            have hjs1 := HJS.out (k + 1)
            rw [hsn] at hjs1
            have HS1 := Lib.hid hsn
            clear t0 t1 t2 hsn
            generalize s.extract l[k].2.1 (l[k].2.1 + l[k].2.2) = x at *
            generalize jb s (l.take k) = B at *
            have hbx : B.size + x.size ≤ 2000 := by simp at hjs1; omega
            clear hjs1
            go_wp2_with fail
            go_roundw
            case rel => exact ⟨k + 1, by omega, by go_num, by rw [HS1.out], hEr, hE2r⟩
            case measure => simp [intOf]; omega
          · obtain rfl : k = n := by omega
            have e : l.take k = l := List.take_of_length_le (by rw [HN.out]; exact Nat.le_refl _)
            rw [e]
            go_wp2_with fail
            refine (C2.out _ (hv.ext hEr)).mono ?_
            rintro e w3 ⟨v2, rfl, ho2, hE3⟩
            have hE4 := hEr.ext hE3
            have hl22 := ho2.lt
            have hH2 := Lib.hid ho2
            rcases ho2.2 with ⟨rfl, hz⟩ | ⟨g2, cap2, cur2, rfl, hg2, hh2, hr2⟩
            · subst hz
              clear ho2 hH2 hl22
              go_wp2_with fail
              go_loopw [11] (fun i wr => i = .int .i64 0 ∧ Ext w wr) (fun i wr => 0)
              case atStart => exact ⟨rfl, hE4.alloc _⟩
              case round =>
                obtain ⟨rfl, hEr4⟩ := hrel
                go_wp2_with fail
                go_ret
                exact ⟨rfl, hEr4⟩
            · have hb2 : g2 < w3.heap.size := (hl22 g2 rfl).2
              have hE23 : Ext w2 w3 := hE2r.ext hE3
              clear ho2 hh2 hr2 hl22
              go_wp2_with fail
              go_loopw [11] (fun i wr => ∃ j : Nat, j ≤ k ∧ i = .int .i64 j ∧ Ext w wr ∧ Ext w2 wr ∧ Ext w3 wr) (fun i wr => k - (intOf i).toNat)
              case atStart => exact ⟨0, Nat.zero_le _, rfl, hE4.alloc _, hE23.alloc _, (Chg.refl _ _).alloc _⟩
              case round =>
                obtain ⟨j, hj, rfl, hEw, hEw2, hEw3⟩ := hrel
                by_cases hlt : j < k
                · have hki : (j : Int) < (k : Int) := by omega
                  have hjl : j < l.length := by rw [HN.out]; exact hlt
                  obtain ⟨t0, t1, _⟩ := lexTells.tok_cells s l j hjl
                  obtain ⟨p0, p1, _⟩ := lexTells.tok_cells (jb s l) (again.placed 0 l) j (by rw [hpl]; exact hjl)
                  obtain ⟨q0, q1⟩ := HPT.out j hjl
                  rw [← jb_list] at q1
                  rw [q0] at p0
                  rw [text_eq s (jb s l) l[j] _ q1] at p1
                  have a0 := ((hH1.out.cellAt (j * 3) (by omega)).trans t0)
                  have a1 := ((hH1.out.cellAt (j * 3 + 1) (by omega)).trans t1)
                  have b0 := ((hH2.out.cellAt (j * 3) (by omega)).trans p0)
                  have b1 := ((hH2.out.cellAt (j * 3 + 1) (by omega)).trans p1)
                  rw [← hEw2.cell (by exact hb1) id] at a0 a1
                  rw [← hEw3.cell (by exact hb2) id] at b0 b1
                  clear t0 t1 p0 p1 q0 q1
                  generalize s.extract l[j].2.1 (l[j].2.1 + l[j].2.2) = x at *
                  generalize l[j].1 = kd at *
                  go_wp2_with fail
                  go_quiet (fail)
                  go_wp2_with fail
                  go_roundw
                  case rel => exact ⟨j + 1, by omega, by go_num, hEw.drewN _, hEw2.drewN _, hEw3.drewN _⟩
                  case measure => simp [intOf]; omega
                · obtain rfl : j = k := by omega
                  go_wp2_with fail
                  go_ret
                  exact ⟨rfl, hEw⟩
    · obtain rfl : l = [] := hcode hc
      have hlen : ∃ g cap, v1 = .slice g 0 cap := by
        rcases ho1.2 with ⟨rfl, _⟩ | ⟨g, cap, cur, rfl, _⟩
        · exact ⟨_, _, rfl⟩
        · exact ⟨_, _, rfl⟩
      obtain ⟨g, cap, rfl⟩ := hlen
      have hne : (c != 0) = true := by rw [bne_iff_ne]; exact hc
      clear hcode hc ho1
      go_wp2_with fail
      go_ret
      exact ⟨rfl, hE.alloc _⟩
end lexAgain
end Go.Proofs.YtpcihajmcejliaaDoor
