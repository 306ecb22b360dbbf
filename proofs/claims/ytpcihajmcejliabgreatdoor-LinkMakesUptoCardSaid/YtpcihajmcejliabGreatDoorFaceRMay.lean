/- The walk of the reference's May: a face. -/
import Derived.Test.YtpcihajmcejliabGreatDoorFaceR
import Derived.Test.YtpcihajmcejliabGreatDoorName
import Derived.Deep.RegionHeld3
namespace Go.Proofs.YtpcihajmcejliabGreatDoor
open Go.RowKit
namespace rface
open face
/-- words laid behind one another -/
def wordCells (l : List ByteArray) : List Value := l.map Value.string
theorem wordCells_snoc (l : List ByteArray) (x : ByteArray) : wordCells (l ++ [x]) = wordCells l ++ [.string x] := by simp [wordCells]
theorem words_in {w : World} {B : Nat} {e : TypeId} {v : Value} {l : List ByteArray} (h : w.ownsRow B e 1 v l.length (wordCells l)) :
    ∃ a c, v = .slice a l.length c ∧ AllIn 1 WordIn w a l ∧ l.length ≤ c ∧ c ≤ maxLen ∧ (∀ g o, a = some ⟨g, o, none⟩ → o = 0 ∧ g < w.heap.size ∧ B ≤ g) := by
  rcases h.2 with ⟨rfl, hz⟩ | ⟨g, cap, cur, rfl, hg, hh, hr⟩
  · refine ⟨none, 0, by rw [hz], fun j hj => by omega, by omega, Nat.zero_le _, fun g o e => by cases e⟩
  · have hlt := h.lt g rfl
    refine ⟨some ⟨g, 0, none⟩, cap, rfl, fun j hj => ⟨g, 0, rfl, hlt.2, ?_⟩, hr.1, hr.2.1, fun g' o e => ?_⟩
    · unfold WordIn
      have := h.cellAt j (by omega)
      simp only [Nat.zero_add, Nat.mul_one]
      refine this.trans ?_
      simp [wordCells, hj]
    · cases e
      exact ⟨rfl, hlt.2, hlt.1⟩
def wordsOf (f : FFace) : List ByteArray := f.vars.map FVar.name ++ f.procs.map FProc.name
theorem words_keys (f : FFace) : ((wordsOf f).map fun x => x.data.toList) = f.keys := by
  simp only [wordsOf, FFace.keys, List.map_append, List.map_map]; rfl
theorem words_len (f : FFace) : (wordsOf f).length = f.vars.length + f.procs.length := by simp [wordsOf]
theorem words_var (f : FFace) (k : Nat) (h : k < f.vars.length) : (wordsOf f).take (k + 1) = (wordsOf f).take k ++ [f.vars[k].name] := by
  have h2 : k < (wordsOf f).length := by rw [words_len]; omega
  rw [List.take_succ_eq_append_getElem h2]
  congr 2
  simp [wordsOf, h]
theorem words_proc (f : FFace) (n : Nat) (hn : f.vars.length = n) (j : Nat) (h : j < f.procs.length) : (wordsOf f).take (n + j + 1) = (wordsOf f).take (n + j) ++ [f.procs[j].name] := by
  subst hn
  have h2 : f.vars.length + j < (wordsOf f).length := by rw [words_len]; omega
  rw [List.take_succ_eq_append_getElem h2]
  congr 2
  simp [wordsOf]
theorem AllIn.takeN {α : Type} {k : Nat} {In : World → Nat → Nat → α → Prop} {w : World} {a : Option Addr} {l : List α} (h : AllIn k In w a l) (n : Nat) : AllIn k In w a (l.take n) := fun j hj => by
  have hj' : j < l.length := by rw [List.length_take] at hj; omega
  have := h j hj'
  rwa [List.getElem_take]
theorem words_size {f : FFace} {w : World} {a c : Option Addr} (ha : AllIn 4 VarIn w a f.vars) (hc : AllIn 6 ProcIn w c f.procs) : ∀ s ∈ wordsOf f, s.size ≤ maxLen := by
  intro s hs
  simp only [wordsOf, List.mem_append, List.mem_map] at hs
  rcases hs with ⟨v, hv, rfl⟩ | ⟨v, hv, rfl⟩
  · obtain ⟨j, hj, rfl⟩ := List.getElem_of_mem hv
    obtain ⟨b, o, _, _, h⟩ := ha j hj
    exact h.2.2.2.2
  · obtain ⟨j, hj, rfl⟩ := List.getElem_of_mem hv
    obtain ⟨b, o, _, _, h⟩ := hc j hj
    exact h.2.2.2.2.2.2
theorem key_at {L : List ByteArray} {K : List (List UInt8)} (h : (L.map fun x => x.data.toList) = K) (q : Nat) (hq : q < L.length) (hk : q < K.length) : K[q] = L[q].data.toList ∧ K.take q = (L.take q).map fun x => x.data.toList := by
  subst h
  simp
theorem sl_keep {w w1 : World} {p : Addr} {v : Value} (hE : Ext w w1) (hc : w.cell? p = some v) (hp : p.block < w.heap.size) : w1.cell? p = some v ∧ Ext w w1 := ⟨(hE.cell hp id).trans hc, hE⟩
theorem sl_next {C : Prop} {w w1 w2 : World} (h : C ∧ Ext w w1) (h2 : Ext w1 w2) : Ext w w2 := h.2.ext h2
set_option maxRecDepth 100000 in
set_option maxHeartbeats 4000000 in
theorem may_any (x : FFace) (v : Value) (w : World) (hx : FaceAt w x v) :
    Calls Tryz.prog 109 #[v] w fun e w' => e = .returned (.bool (mayFaceB x)) ∧ Ext w w' := by
  obtain ⟨a, am, c, cm, rfl, ha, hc, hmod, ha1, ha2, hc1, hc2⟩ := hx
  unfold maxLen at ha2 hc2 hmod
  rw [may_eq]
  have HKW := Lib.hid (words_keys x)
  have HLW := Lib.hid (words_len x)
  have HWV := Lib.hid (words_var x)
  have HWP := Lib.hid (words_proc x)
  have HWS := Lib.hid (words_size ha hc)
  generalize wordsOf x = L at *
  generalize x.keys = K at *
  obtain ⟨xn, xv, xp⟩ := x
  simp only at *
  have HA := Lib.hid (And.intro ha hc)
  obtain ⟨n1, hn1⟩ : ∃ n, xv.length = n := ⟨_, rfl⟩
  obtain ⟨n2, hn2⟩ : ∃ n, xp.length = n := ⟨_, rfl⟩
  rw [hn1, hn2] at HLW
  simp only [hn1, hn2] at ha1 hc1 ⊢
  have HWP := Lib.hid (HWP.out n1 hn1)
  have H1 := Lib.hid hn1
  have H2 := Lib.hid hn2
  have HNM := Lib.hid (fun w => rname.name_any xn w (by omega))
  generalize nameB xn.data.toList = A1 at *
  have hB1 : Blk (w.alloc (.cells #[.string xn, .slice a n1 am, .slice c n2 cm] 52)) w.heap.size #[.string xn, .slice a n1 am, .slice c n2 cm] 52 := Blk.made _ _ _
  have hE : Ext w (w.alloc (.cells #[.string xn, .slice a n1 am, .slice c n2 cm] 52)) := (Chg.refl _ _).alloc _
  have hz : (w.alloc (.cells #[.string xn, .slice a n1 am, .slice c n2 cm] 52)).heap.size = w.heap.size + 1 := by simp
  have HB1 := Lib.hid hB1
  have HE := Lib.hid hE
  clear ha hc hn1 hn2 hB1 hE
  cases A1
  · go_enter Tryz.func109, Tryz.ntmps109
    go_wp2_with fail
    refine (HNM.out _).mono ?_
    rintro e w1 ⟨rfl, hE1⟩
    go_wp2_with fail
    go_ret
    exact ⟨rfl, HE.out.ext hE1⟩
  · by_cases h20 : n1 + n2 ≤ 20
    · have hd : decide (n1 + n2 ≤ 20) = true := decide_eq_true h20
      rw [hd, Bool.true_and, Bool.true_and]
      have h20a : (n1 : Int) ≤ 20 := by omega
      have h20b : (n2 : Int) ≤ 20 := by omega
      have h20c : (n1 : Int) + (n2 : Int) ≤ 20 := by omega
      clear hd
      generalize hB : (xv.all varT && xp.all procT && goodB K) = B
      have HF1 := Lib.hid (fun h : xv.all varT = false => show B = false by rw [← hB, h]; rfl)
      have HF2 := Lib.hid (fun h : xp.all procT = false => show B = false by rw [← hB, h]; cases xv.all varT <;> rfl)
      have HF3 := Lib.hid (fun h : goodB K = false => show B = false by rw [← hB, h]; cases xv.all varT <;> cases xp.all procT <;> rfl)
      have HT := Lib.hid (fun (h : xv.all varT = true) (h2 : xp.all procT = true) (h3 : goodB K = true) => show B = true by rw [← hB, h, h2, h3]; rfl)
      clear hB
      go_enter Tryz.func109, Tryz.ntmps109
      go_wp2_with fail
      refine (HNM.out _).mono ?_
      rintro e w1 ⟨rfl, hE1⟩
      have hX := HB1.out.ext hE1
      have hEw := HE.out.ext hE1
      have hz1 : w.heap.size + 1 ≤ w1.heap.size := by rw [← hz]; exact hE1.size
      clear hE1 HB1 HE hz
      have x0 := hX.cell 0
      have x1 := hX.cell 1
      have x2 := hX.cell 2
      simp at x0
      simp at x1
      simp at x2
      have hzz : w.heap.size < w1.heap.size := by omega
      have HX := Lib.hid hX
      clear hX
      go_wp2_with fail
      clear x0 x1 x2 hzz
      go_loopw [3, 4] (fun v i wr => ∃ k : Nat, k ≤ n1 ∧ i = .int .i64 k ∧ wr.ownsRow w1.heap.size 9 1 v k (wordCells (L.take k)) ∧ Hid ((xv.take k).all varT = true) ∧ Ext w1 wr) (fun _ i _ => n1 - (intOf i).toNat)
      case atStart => exact ⟨0, Nat.zero_le _, rfl, World.ownsRow_nil _ _ _ _, by simp [Hid], Chg.refl _ _⟩
      case round =>
        obtain ⟨k, hk, rfl, hown, hrel, hE1⟩ := hrel
        have hX := HX.out.ext hE1
        have hzz : w.heap.size < wr.heap.size := hX.lt
        have hzb := hE1.size
        by_cases hlt : k < n1
        · have x1 := hX.cell 1
          simp at x1
          have hki : (k : Int) < (n1 : Int) := by omega
          have hlk : k < xv.length := by rw [H1.out]; exact hlt
          obtain ⟨bl, ol, rfl, hbl, cl⟩ := HA.out.1 k hlk
          have hEr := hEw.ext hE1
          have hbl' := Nat.lt_of_lt_of_le hbl hEr.size
          obtain ⟨l0, l1, l2, l3, lz⟩ := VarIn.ext hEr hbl cl
          have hs := all_snoc varT xv k hlk
          rw [hrel.out, Bool.true_and] at hs
          have HBAD := Lib.hid (fun h => HF1.out (all_bad hlk h))
          have hw := HWV.out k hlk
          clear cl hX
          generalize xv[k] = x at *
          obtain ⟨vn, vp, vl, vs⟩ := x
          simp only at l0 l1 l2 l3 lz hw
          have HS := Lib.hid hs
          have HW := Lib.hid hw
          have HE1 := Lib.hid hE1
          have HEr := Lib.hid hEr
          have HOWN := Lib.hid hown
          have hvt : varT ⟨vn, vp, vl, vs⟩ = (vp && labB vl && decide (0 ≤ vs) && decide (vs ≤ 64)) := rfl
          have HVT := Lib.hid hvt
          obtain ⟨lb, hlb⟩ : ∃ b, labB vl = b := ⟨_, rfl⟩
          rw [hlb] at hvt
          have HLB := Lib.hid hlb
          clear hs hw hE1 hEr hown hvt hlb
          cases vp
          · have HT2 := Lib.hid (HBAD.out (by rw [HVT.out]; rfl))
            go_wp2_with fail
            go_ret
            exact ⟨ret_bool HT2.out.symm, HEr.out.alloc _⟩
          · cases lb
            · have HT2 := Lib.hid (HBAD.out (by rw [HVT.out, HLB.out]; rfl))
              go_wp2_with (go_at_call 193; refine (islabel_any _ _).mono ?_; rintro e w' ⟨rfl, rfl⟩; rw [HLB.out])
              go_ret
              exact ⟨ret_bool HT2.out.symm, HEr.out.alloc _⟩
            · by_cases h0 : vs < 0
              · have HT2 := Lib.hid (HBAD.out (by rw [HVT.out, HLB.out, decide_eq_false (show ¬ 0 ≤ vs by omega)]; rfl))
                go_wp2_with (go_at_call 193; refine (islabel_any _ _).mono ?_; rintro e w' ⟨rfl, rfl⟩; rw [HLB.out])
                go_ret
                exact ⟨ret_bool HT2.out.symm, HEr.out.alloc _⟩
              · by_cases h64 : 64 < vs
                · have HT2 := Lib.hid (HBAD.out (by rw [HVT.out, HLB.out, decide_eq_false (show ¬ vs ≤ 64 by omega), Bool.and_false]))
                  go_wp2_with (go_at_call 193; refine (islabel_any _ _).mono ?_; rintro e w' ⟨rfl, rfl⟩; rw [HLB.out])
                  go_ret
                  exact ⟨ret_bool HT2.out.symm, HEr.out.alloc _⟩
                · have HT2 := Lib.hid (HS.out.trans (by rw [HVT.out, HLB.out, decide_eq_true (show 0 ≤ vs by omega), decide_eq_true (show vs ≤ 64 by omega)])) 
                  clear HS HBAD HVT
                  go_wp2_with (first | (go_at_call 193; refine (islabel_any _ _).mono ?_; rintro e w' ⟨rfl, rfl⟩; rw [HLB.out]) | (at_builtin; refine wpList_append_blk rfl (.tmp 67) (.tmp 70) 33 rfl w1.heap.size 9 (.string ⟨#[]⟩) 1 16 Tryz.underlying33 (by kernel_rfl) rfl (by omega) _ k (wordCells (L.take k)) rfl (HOWN.out.alloc _ |>.alloc _) _ 1 1 9 [.string vn] rfl (Blk.made2 _ _ _ _) rfl ?c1 ?c2 ?c3 ?c4 ?_))
                  case c1 => intro u hu; simp at hu; subst hu; rfl
                  case c2 => unfold maxLen; omega
                  case c3 => omega
                  case c4 => simp; omega
                  intro v' w3 hown3 hC3 _
                  have hE3 : Ext w1 w3 := ((HE1.out.alloc _).alloc _).trans hC3 (fun i hi h => by omega)
                  rw [← wordCells_snoc, ← HW.out] at hown3
                  clear hC3
                  go_wp2_with fail
                  go_roundw
                  case rel => exact ⟨k + 1, by omega, by go_num, hown3, HT2.out, hE3⟩
                  case measure => simp [intOf]; omega
        · obtain rfl : k = n1 := by omega
          have HVT := Lib.hid (HT.out (all_whole H1.out hrel.out))
          have x2 := hX.cell 2
          have x1 := hX.cell 1
          simp at x2
          simp at x1
          clear hX hrel HT HF1 HWV
          go_wp2_with fail
          clear x2 x1
          go_loopw [3, 6] (fun v i wr => ∃ j : Nat, j ≤ n2 ∧ i = .int .i64 j ∧ wr.ownsRow w1.heap.size 9 1 v (k + j) (wordCells (L.take (k + j))) ∧ Hid ((xp.take j).all procT = true) ∧ Ext w1 wr) (fun _ i _ => n2 - (intOf i).toNat)
          case atStart => exact ⟨0, Nat.zero_le _, rfl, hown, by simp [Hid], hE1⟩
          case round =>
            clear hown hE1 hzz hzb
            obtain ⟨j, hj, rfl, hown, hrel, hE1⟩ := hrel
            have hX := HX.out.ext hE1
            have hzz : w.heap.size < wr.heap.size := hX.lt
            have hzb := hE1.size
            by_cases hlt2 : j < n2
            · have x2 := hX.cell 2
              simp at x2
              have hki : (j : Int) < (n2 : Int) := by omega
              have hlk : j < xp.length := by rw [H2.out]; exact hlt2
              obtain ⟨bl, ol, rfl, hbl, cl⟩ := HA.out.2 j hlk
              have hEr := hEw.ext hE1
              have hbl' := Nat.lt_of_lt_of_le hbl hEr.size
              obtain ⟨l0, l1, ⟨pa, pc, l2, p1, p2, p3⟩, l3, l4, l5, lz⟩ := ProcIn.ext hEr hbl cl
              have hs := all_snoc procT xp j hlk
              rw [hrel.out, Bool.true_and] at hs
              have HBAD := Lib.hid (fun h => HF2.out (all_bad hlk h))
              have hw := HWP.out j hlk
              clear cl hX
              generalize xp[j] = x at *
              obtain ⟨pn, pp, pl, pw, pg, pv⟩ := x
              simp only at l0 l1 l2 l3 l4 l5 lz hw p1 p2
              have HS := Lib.hid hs
              have HW := Lib.hid hw
              have HE1 := Lib.hid hE1
              have HEr := Lib.hid hEr
              have HOWN := Lib.hid hown
              have HP1 := Lib.hid p1
              obtain ⟨np, hnp⟩ : ∃ n, pl.length = n := ⟨_, rfl⟩
              have hvt : procT ⟨pn, pp, pl, pw, pg, pv⟩ = (pp && decide (pl.length ≤ 5) && labB pw && labB pv && (pg || pv == 0) && pl.all labB) := rfl
              rw [hnp] at hvt l2 p2
              have HNP := Lib.hid hnp
              obtain ⟨lw, hlw⟩ : ∃ b, labB pw = b := ⟨_, rfl⟩
              obtain ⟨lg, hlg⟩ : ∃ b, labB pv = b := ⟨_, rfl⟩
              rw [hlw, hlg] at hvt
              have HVT2 := Lib.hid hvt
              have HLW := Lib.hid hlw
              have HLG := Lib.hid hlg
              clear hs hw hE1 hEr hown hvt hlw hlg hnp p1
              cases pp
              · have HT2 := Lib.hid (HBAD.out (by rw [HVT2.out]; rfl))
                go_wp2_with fail
                go_ret
                exact ⟨ret_bool HT2.out.symm, HEr.out.alloc _⟩
              · by_cases h5 : 5 < np
                · have HT2 := Lib.hid (HBAD.out (by rw [HVT2.out, decide_eq_false (show ¬ np ≤ 5 by omega)]; rfl))
                  have h5i : (5 : Int) < (np : Int) := by omega
                  go_wp2_with fail
                  go_ret
                  exact ⟨ret_bool HT2.out.symm, HEr.out.alloc _⟩
                · have h5i : ¬ (5 : Int) < (np : Int) := by omega
                  have hd5 : decide (np ≤ 5) = true := decide_eq_true (by omega)
                  have HVT3 := Lib.hid (HVT2.out.trans (by rw [hd5]))
                  clear hd5 HVT2
                  cases lw
                  · have HT2 := Lib.hid (HBAD.out (by rw [HVT3.out]; rfl))
                    go_wp2_with (go_at_call 193; refine (islabel_any _ _).mono ?_; rintro e w' ⟨rfl, rfl⟩; first | rw [HLW.out] | rw [HLG.out])
                    go_ret
                    exact ⟨ret_bool HT2.out.symm, HEr.out.alloc _⟩
                  · cases lg
                    · have HT2 := Lib.hid (HBAD.out (by rw [HVT3.out]; rfl))
                      go_wp2_with (go_at_call 193; refine (islabel_any _ _).mono ?_; rintro e w' ⟨rfl, rfl⟩; first | rw [HLW.out] | rw [HLG.out])
                      go_ret
                      exact ⟨ret_bool HT2.out.symm, HEr.out.alloc _⟩
                    · have hgv : (pg || pv == 0) = false ∨ (pg || pv == 0) = true := by cases (pg || pv == 0) <;> simp
                      rcases hgv with hgv | hgv
                      · have HT2 := Lib.hid (HBAD.out (by rw [HVT3.out, hgv]; rfl))
                        cases pg
                        · have hv0 : (pv == 0) = false := hgv
                          have hv1 : ¬ pv = 0 := by simpa using hv0
                          clear hgv
                          go_wp2_with (go_at_call 193; refine (islabel_any _ _).mono ?_; rintro e w' ⟨rfl, rfl⟩; first | rw [HLW.out] | rw [HLG.out])
                          go_ret
                          exact ⟨ret_bool HT2.out.symm, HEr.out.alloc _⟩
                        · cases hgv
                      · have HVT4 := Lib.hid (HVT3.out.trans (by rw [hgv]; rfl : _ = pl.all labB))
                        clear HVT3
                        have hpass : pg = true ∨ (pg = false ∧ pv = 0) := by
                          cases pg
                          · right; exact ⟨rfl, by simpa using hgv⟩
                          · left; rfl
                        clear hgv
                        rcases hpass with rfl | ⟨rfl, rfl⟩
                        all_goals
                          go_wp2_with (go_at_call 193; refine (islabel_any _ _).mono ?_; rintro e w' ⟨rfl, rfl⟩; first | rw [HLW.out] | rw [HLG.out])
                          go_loop [8] (fun i => ∃ q : Nat, q ≤ np ∧ i = .int .i64 q ∧ Hid ((pl.take q).all labB = true)) (fun i => np - (intOf i).toNat)
                          case atStart => exact ⟨0, Nat.zero_le _, rfl, by simp [Hid]⟩
                          case round =>
                            obtain ⟨q, hq, rfl, hrel3⟩ := hrel
                            by_cases hlt3 : q < np
                            · have hqi : (q : Int) < (np : Int) := by omega
                              have hlq : q < pl.length := by rw [HNP.out]; exact hlt3
                              obtain ⟨bp, op, rfl, hbp, cp⟩ := HP1.out q hlq
                              unfold IntIn at cp
                              rw [Nat.mul_one] at cp
                              have hs := all_snoc labB pl q hlq
                              rw [hrel3.out, Bool.true_and] at hs
                              have HB2 := Lib.hid (fun h => HBAD.out (HVT4.out.trans (all_bad hlq h)))
                              generalize pl[q] = z at *
                              have HS2 := Lib.hid hs
                              obtain ⟨lz, hlz⟩ : ∃ b, labB z = b := ⟨_, rfl⟩
                              have HLZ := Lib.hid hlz
                              clear hs hlz
                              cases lz
                              · have HT2 := Lib.hid (HB2.out HLZ.out)
                                go_wp2_with (go_at_call 193; refine (islabel_any _ _).mono ?_; rintro e w' ⟨rfl, rfl⟩; rw [HLZ.out])
                                go_ret
                                exact ⟨ret_bool HT2.out.symm, HEr.out.alloc _⟩
                              · have HT2 := Lib.hid (HS2.out.trans HLZ.out)
                                go_wp2_with (go_at_call 193; refine (islabel_any _ _).mono ?_; rintro e w' ⟨rfl, rfl⟩; rw [HLZ.out])
                                go_round
                                case rel => exact ⟨q + 1, by omega, by go_num, HT2.out⟩
                                case measure => simp [intOf]; omega
                            · obtain rfl : q = np := by omega
                              have HT2 := Lib.hid (HS.out.trans (HVT4.out.trans (all_whole HNP.out hrel3.out)))
                              clear HS HBAD HVT4
                              go_wp2_with (at_builtin; refine wpList_append_blk rfl (.tmp 129) (.tmp 132) 33 rfl w1.heap.size 9 (.string ⟨#[]⟩) 1 16 Tryz.underlying33 (by kernel_rfl) rfl (by omega) _ (k + j) (wordCells (L.take (k + j))) rfl (HOWN.out.alloc _ |>.alloc _) _ 1 1 9 [.string pn] rfl (Blk.made2 _ _ _ _) rfl ?_ ?_ ?_ ?_ ?_; (intro u hu; simp at hu; subst hu; rfl); (unfold maxLen; omega); omega; (simp; omega))
                              intro v' w3 hown3 hC3 _
                              have hE3 : Ext w1 w3 := ((HE1.out.alloc _).alloc _).trans hC3 (fun i hi h => by omega)
                              rw [← wordCells_snoc, ← HW.out] at hown3
                              clear hC3
                              go_wp2_with fail
                              go_roundw
                              case rel => exact ⟨j + 1, by omega, by go_num, hown3, HT2.out, hE3⟩
                              case measure => simp [intOf]; omega
            · obtain rfl : j = n2 := by omega
              have HFIN := Lib.hid (fun h3 => HVT.out (all_whole H2.out hrel.out) h3)
              have x2 := hX.cell 2
              simp at x2
              rw [List.take_of_length_le (by rw [HLW.out]; exact Nat.le_refl _), ← HLW.out] at hown
              obtain ⟨av, cv, rfl, hwin, hmc, hcm, hgo⟩ := words_in hown
              have hE0 := hEw.ext hE1
              obtain ⟨m, hm⟩ : ∃ m, L.length = m := ⟨_, rfl⟩
              rw [hm] at hmc ⊢
              unfold maxLen at hcm
              have HM := Lib.hid hm
              have hm20 : m ≤ 20 := by rw [← hm, HLW.out]; exact h20
              have HWIN := Lib.hid hwin
              have HKL := Lib.hid (show K.length = m by rw [← HKW.out, List.length_map]; exact hm)
              clear hX hrel hown hwin hm hE1
              go_wp2_with fail
              clear x2
              go_loopw [9] (fun i wz => ∃ q : Nat, q ≤ m ∧ i = .int .i64 q ∧ Hid (goodB (K.take q) = true) ∧ Ext wr wz) (fun i _ => m - (intOf i).toNat)
              case atStart => exact ⟨0, Nat.zero_le _, rfl, by simp [Hid, goodB, distinctB], Chg.refl _ _⟩
              case round =>
                obtain ⟨q, hq, rfl, hrel, hEz⟩ := hrel
                by_cases hlt3 : q < m
                · have hqi : (q : Int) < (m : Int) := by omega
                  have hlq : q < L.length := by rw [HM.out]; exact hlt3
                  have hlk : q < K.length := by rw [HKL.out]; exact hlt3
                  obtain ⟨g, o, rfl, hg, cw⟩ := HWIN.out q hlq
                  obtain ⟨rfl, _, hgB⟩ := hgo g o rfl
                  obtain ⟨k1, k2⟩ := key_at HKW.out q hlq hlk
                  have hs := good_snoc K q hlk
                  rw [hrel.out, Bool.true_and, k1, k2] at hs
                  have hxs := HWS.out _ (List.getElem_mem hlq)
                  unfold maxLen at hxs
                  unfold WordIn at cw
                  rw [Nat.mul_one, Nat.zero_add] at cw
                  have HSL := Lib.hid (fun w' (hE : Ext wr w') => AllIn.takeN (AllIn.mono HWIN.out (Nat.le_trans hEz.size hE.size) (fun b o x hb h => (show WordIn w' b o x by unfold WordIn at *; rw [(hEz.ext hE).cell (by exact hb) id]; exact h))) q)
                  have hlt4 : (L.take q).length = q := by rw [List.length_take]; omega
                  have CP := Lib.hid (fun w' hin => place_any (some ⟨g, 0, none⟩) cv (L.take q) L[q] w' hin (by rw [hlt4]; omega))
                  have CN := Lib.hid (fun w' => rname.name_any L[q] w' hxs)
                  have cz : wr.cell? ⟨g, q, none⟩ = some (.string L[q]) := (hEz.cell (by exact hg) id).trans cw
                  have hgz := Nat.lt_of_lt_of_le hg hEz.size
                  rw [hlt4] at CP
                  generalize L[q] = x at *
                  have HZ := Lib.hid (fun w' (hE : Ext wr w') => sl_keep hE cz hgz)
                  have HG := Lib.hid hs
                  have HEz := Lib.hid (hE0.ext hEz)
                  have HE2 := Lib.hid hEz
                  have HGB := Lib.hid (fun h : goodB (K.take (q + 1)) = false => HF3.out (good_bad h))
                  clear hs k1 k2 hEz cw hE0 HFIN HF3 HF2 hlt4 hgo hgB cz hxs hrel hlq hlk HWP HWS HKW HNM HVT HA HX h20 h20c h20a h20b
                  have hqc : q ≤ cv := by omega
                  have hqci : (q : Int) ≤ (cv : Int) := by omega
                  generalize nameB x.data.toList = nm at *
                  generalize (((L.take q).map fun x => x.data.toList).contains x.data.toList) = ct at *
                  cases nm
                  · have HT2 := Lib.hid (HGB.out (by rw [HG.out]; rfl))
                    go_wp2_with fail
                    refine wp_region_held_drew (S := fun w' => w'.cell? ⟨g, q, none⟩ = some (.string x) ∧ Ext wr w') (by kernel_rfl) (HZ.out _ (Chg.refl _ _).drew) (fun hHeld => ?_)
                    refine wpAnyH_take (i := 0) (v := ?va0) rfl (by kernel_rfl) (by kernel_rfl) (by kernel_rfl) (fun _ _ _ h => h) (Or.inl ⟨by rfl, ?ha0⟩) (by assumption) ?ra0
                    case ha0 => intro w hSw; (try dsimp only at hSw); go_simp; (try with_reducible rfl)
                    simp only [Act.put, List.getElem_toArray, List.getElem_cons_zero, List.setIfInBounds_toArray, List.set_cons_zero, List.set_cons_succ]
                    refine wpAnyH_take (i := 1) (v := ?va1) rfl (by kernel_rfl) (by kernel_rfl) (by kernel_rfl) (fun _ _ _ h => h) (Or.inl ⟨by rfl, ?ha1⟩) (by assumption) ?ra1
                    case ha1 => intro w hSw; (try dsimp only at hSw); go_simp; (try with_reducible rfl)
                    simp only [Act.put, List.getElem_toArray, List.getElem_cons_zero, List.getElem_cons_succ, List.setIfInBounds_toArray, List.set_cons_zero, List.set_cons_succ]
                    refine wpAnyH_take (i := 2) (v := ?va2) rfl (by kernel_rfl) (by kernel_rfl) (by kernel_rfl) (fun _ _ _ h => h) (Or.inl ⟨by rfl, ?ha2⟩) (by assumption) ?ra2
                    case ha2 => intro w hSw; (try dsimp only at hSw); go_simp; (try with_reducible rfl)
                    simp only [Act.put, List.getElem_toArray, List.getElem_cons_zero, List.getElem_cons_succ, List.setIfInBounds_toArray, List.set_cons_zero, List.set_cons_succ]
                    refine wpAnyH_take (i := 3) (v := ?va3) rfl (by kernel_rfl) (by kernel_rfl) (by kernel_rfl) (fun _ _ _ h => h) (Or.inl ⟨by rfl, ?ha3⟩) (by assumption) ?ra3
                    case ha3 => intro w hSw; (try dsimp only at hSw); go_simp; (try with_reducible rfl)
                    simp only [Act.put, List.getElem_toArray, List.getElem_cons_zero, List.getElem_cons_succ, List.setIfInBounds_toArray, List.set_cons_zero, List.set_cons_succ]
                    refine wpAnyH_ready (rs := [4]) (by kernel_rfl) (by simp) ?_
                    refine AllReadyH.cons rfl (fun K2 hK2 => ?_) AllReadyH.nil
                    go_simp
                    refine (CN.out _).mono ?_
                    rintro e w' ⟨rfl, hE'⟩
                    refine hK2.out _ _ (HZ.out _ (sl_next hHeld hE')) (fun hHeld2 => ?_)
                    clear hK2 K2 hHeld hE'
                    try simp only [Act.put, List.getElem_toArray, List.getElem_cons_zero, List.getElem_cons_succ, List.setIfInBounds_toArray, List.set_cons_zero, List.set_cons_succ]
                    refine wpAnyH_take (i := 5) (v := ?va5) rfl (by kernel_rfl) (by kernel_rfl) (by kernel_rfl) (fun _ _ _ h => h) (Or.inl ⟨by rfl, ?ha5⟩) (by assumption) ?ra5
                    case ha5 => intro w hSw; (try dsimp only at hSw); go_simp; (try with_reducible rfl)
                    simp only [Act.put, List.getElem_toArray, List.getElem_cons_zero, List.getElem_cons_succ, List.setIfInBounds_toArray, List.set_cons_zero, List.set_cons_succ]
                    refine wpAnyH_take (i := 6) (v := ?va6) rfl (by kernel_rfl) (by kernel_rfl) (by kernel_rfl) (fun _ _ _ h => h) (Or.inl ⟨by rfl, ?ha6⟩) (by assumption) ?ra6
                    case ha6 => intro w hSw; (try dsimp only at hSw); go_simp; (try with_reducible rfl)
                    simp only [Act.put, List.getElem_toArray, List.getElem_cons_zero, List.getElem_cons_succ, List.setIfInBounds_toArray, List.set_cons_zero, List.set_cons_succ]
                    refine wpAnyH_take (i := 7) (v := undef) rfl (by kernel_rfl) (by kernel_rfl) (by kernel_rfl) (fun _ _ _ h => h) (Or.inr ⟨by rfl, rfl⟩) (by assumption) ?_
                    simp only [Act.put, List.getElem_toArray, List.getElem_cons_zero, List.getElem_cons_succ, List.setIfInBounds_toArray, List.set_cons_zero, List.set_cons_succ]
                    refine wpAnyH_take (i := 8) (v := undef) rfl (by kernel_rfl) (by kernel_rfl) (by kernel_rfl) (fun _ _ _ h => h) (Or.inr ⟨by rfl, rfl⟩) (by assumption) ?_
                    simp only [Act.put, List.getElem_toArray, List.getElem_cons_zero, List.getElem_cons_succ, List.setIfInBounds_toArray, List.set_cons_zero, List.set_cons_succ]
                    refine wpAnyH_take (i := 9) (v := undef) rfl (by kernel_rfl) (by kernel_rfl) (by kernel_rfl) (fun _ _ _ h => h) (Or.inr ⟨by rfl, rfl⟩) (by assumption) ?_
                    simp only [Act.put, List.getElem_toArray, List.getElem_cons_zero, List.getElem_cons_succ, List.setIfInBounds_toArray, List.set_cons_zero, List.set_cons_succ]
                    refine wpAnyH_take (i := 10) (v := undef) rfl (by kernel_rfl) (by kernel_rfl) (by kernel_rfl) (fun _ _ _ h => h) (Or.inr ⟨by rfl, rfl⟩) (by assumption) ?_
                    simp only [Act.put, List.getElem_toArray, List.getElem_cons_zero, List.getElem_cons_succ, List.setIfInBounds_toArray, List.set_cons_zero, List.set_cons_succ]
                    refine wpAnyH_take (i := 11) (v := undef) rfl (by kernel_rfl) (by kernel_rfl) (by kernel_rfl) (fun _ _ _ h => h) (Or.inr ⟨by rfl, rfl⟩) (by assumption) ?_
                    simp only [Act.put, List.getElem_toArray, List.getElem_cons_zero, List.getElem_cons_succ, List.setIfInBounds_toArray, List.set_cons_zero, List.set_cons_succ]
                    refine wpAnyH_take (i := 12) (v := undef) rfl (by kernel_rfl) (by kernel_rfl) (by kernel_rfl) (fun _ _ _ h => h) (Or.inr ⟨by rfl, rfl⟩) (by assumption) ?_
                    simp only [Act.put, List.getElem_toArray, List.getElem_cons_zero, List.getElem_cons_succ, List.setIfInBounds_toArray, List.set_cons_zero, List.set_cons_succ]
                    refine wpAnyH_take (i := 13) (v := undef) rfl (by kernel_rfl) (by kernel_rfl) (by kernel_rfl) (fun _ _ _ h => h) (Or.inr ⟨by rfl, rfl⟩) (by assumption) ?_
                    simp only [Act.put, List.getElem_toArray, List.getElem_cons_zero, List.getElem_cons_succ, List.setIfInBounds_toArray, List.set_cons_zero, List.set_cons_succ]
                    refine wpAnyH_take (i := 14) (v := undef) rfl (by kernel_rfl) (by kernel_rfl) (by kernel_rfl) (fun _ _ _ h => h) (Or.inr ⟨by rfl, rfl⟩) (by assumption) ?_
                    simp only [Act.put, List.getElem_toArray, List.getElem_cons_zero, List.getElem_cons_succ, List.setIfInBounds_toArray, List.set_cons_zero, List.set_cons_succ]
                    refine wpAnyH_take (i := 15) (v := undef) rfl (by kernel_rfl) (by kernel_rfl) (by kernel_rfl) (fun _ _ _ h => h) (Or.inr ⟨by rfl, rfl⟩) (by assumption) ?_
                    simp only [Act.put, List.getElem_toArray, List.getElem_cons_zero, List.getElem_cons_succ, List.setIfInBounds_toArray, List.set_cons_zero, List.set_cons_succ]
                    refine wpAnyH_take (i := 16) (v := ?va16) rfl (by kernel_rfl) (by kernel_rfl) (by kernel_rfl) (fun _ _ _ h => h) (Or.inl ⟨by rfl, ?ha16⟩) (by assumption) ?ra16
                    case ha16 => intro w hSw; (try dsimp only at hSw); go_simp; (try with_reducible rfl)
                    simp only [Act.put, List.getElem_toArray, List.getElem_cons_zero, List.getElem_cons_succ, List.setIfInBounds_toArray, List.set_cons_zero, List.set_cons_succ]
                    refine wpAnyH_done (by kernel_rfl) ?_ _
                    have hEnd := hHeld2.2
                    clear hHeld2
                    go_wp2_with fail
                    go_ret
                    exact ⟨ret_bool HT2.out.symm, HEz.out.ext hEnd⟩
                  · cases ct
                    · have HT2 := Lib.hid (HG.out.trans rfl)
                      clear HG HGB
                      go_wp2_with fail
                      refine wp_region_held_drew (S := fun w' => w'.cell? ⟨g, q, none⟩ = some (.string x) ∧ Ext wr w') (by kernel_rfl) (HZ.out _ (Chg.refl _ _).drew) (fun hHeld => ?_)
                      refine wpAnyH_take (i := 0) (v := ?vb0) rfl (by kernel_rfl) (by kernel_rfl) (by kernel_rfl) (fun _ _ _ h => h) (Or.inl ⟨by rfl, ?hb0⟩) (by assumption) ?rb0
                      case hb0 => intro w hSw; (try dsimp only at hSw); go_simp; (try with_reducible rfl)
                      simp only [Act.put, List.getElem_toArray, List.getElem_cons_zero, List.setIfInBounds_toArray, List.set_cons_zero, List.set_cons_succ]
                      refine wpAnyH_take (i := 1) (v := ?vb1) rfl (by kernel_rfl) (by kernel_rfl) (by kernel_rfl) (fun _ _ _ h => h) (Or.inl ⟨by rfl, ?hb1⟩) (by assumption) ?rb1
                      case hb1 => intro w hSw; (try dsimp only at hSw); go_simp; (try with_reducible rfl)
                      simp only [Act.put, List.getElem_toArray, List.getElem_cons_zero, List.getElem_cons_succ, List.setIfInBounds_toArray, List.set_cons_zero, List.set_cons_succ]
                      refine wpAnyH_take (i := 2) (v := ?vb2) rfl (by kernel_rfl) (by kernel_rfl) (by kernel_rfl) (fun _ _ _ h => h) (Or.inl ⟨by rfl, ?hb2⟩) (by assumption) ?rb2
                      case hb2 => intro w hSw; (try dsimp only at hSw); go_simp; (try with_reducible rfl)
                      simp only [Act.put, List.getElem_toArray, List.getElem_cons_zero, List.getElem_cons_succ, List.setIfInBounds_toArray, List.set_cons_zero, List.set_cons_succ]
                      refine wpAnyH_take (i := 3) (v := ?vb3) rfl (by kernel_rfl) (by kernel_rfl) (by kernel_rfl) (fun _ _ _ h => h) (Or.inl ⟨by rfl, ?hb3⟩) (by assumption) ?rb3
                      case hb3 => intro w hSw; (try dsimp only at hSw); go_simp; (try with_reducible rfl)
                      simp only [Act.put, List.getElem_toArray, List.getElem_cons_zero, List.getElem_cons_succ, List.setIfInBounds_toArray, List.set_cons_zero, List.set_cons_succ]
                      refine wpAnyH_ready (rs := [4]) (by kernel_rfl) (by simp) ?_
                      refine AllReadyH.cons rfl (fun K2 hK2 => ?_) AllReadyH.nil
                      go_simp
                      refine (CN.out _).mono ?_
                      rintro e w' ⟨rfl, hE'⟩
                      refine hK2.out _ _ (HZ.out _ (sl_next hHeld hE')) (fun hHeld2 => ?_)
                      clear hK2 K2 hHeld hE'
                      try simp only [Act.put, List.getElem_toArray, List.getElem_cons_zero, List.getElem_cons_succ, List.setIfInBounds_toArray, List.set_cons_zero, List.set_cons_succ]
                      refine wpAnyH_take (i := 5) (v := ?vb5) rfl (by kernel_rfl) (by kernel_rfl) (by kernel_rfl) (fun _ _ _ h => h) (Or.inl ⟨by rfl, ?hb5⟩) (by assumption) ?rb5
                      case hb5 => intro w hSw; (try dsimp only at hSw); go_simp; (try with_reducible rfl)
                      simp only [Act.put, List.getElem_toArray, List.getElem_cons_zero, List.getElem_cons_succ, List.setIfInBounds_toArray, List.set_cons_zero, List.set_cons_succ]
                      refine wpAnyH_take (i := 6) (v := ?vb6) rfl (by kernel_rfl) (by kernel_rfl) (by kernel_rfl) (fun _ _ _ h => h) (Or.inl ⟨by rfl, ?hb6⟩) (by assumption) ?rb6
                      case hb6 => intro w hSw; (try dsimp only at hSw); go_simp; (try with_reducible rfl)
                      simp only [Act.put, List.getElem_toArray, List.getElem_cons_zero, List.getElem_cons_succ, List.setIfInBounds_toArray, List.set_cons_zero, List.set_cons_succ]
                      refine wpAnyH_take (i := 7) (v := ?vb7) rfl (by kernel_rfl) (by kernel_rfl) (by kernel_rfl) (fun _ _ _ h => h) (Or.inl ⟨by rfl, ?hb7⟩) (by assumption) ?rb7
                      case hb7 => intro w hSw; (try dsimp only at hSw); go_simp; (try with_reducible rfl)
                      simp only [Act.put, List.getElem_toArray, List.getElem_cons_zero, List.getElem_cons_succ, List.setIfInBounds_toArray, List.set_cons_zero, List.set_cons_succ]
                      refine wpAnyH_take (i := 8) (v := ?vb8) rfl (by kernel_rfl) (by kernel_rfl) (by kernel_rfl) (fun _ _ _ h => h) (Or.inl ⟨by rfl, ?hb8⟩) (by assumption) ?rb8
                      case hb8 => intro w hSw; (try dsimp only at hSw); go_simp; (try with_reducible rfl)
                      simp only [Act.put, List.getElem_toArray, List.getElem_cons_zero, List.getElem_cons_succ, List.setIfInBounds_toArray, List.set_cons_zero, List.set_cons_succ]
                      refine wpAnyH_take (i := 9) (v := ?vb9) rfl (by kernel_rfl) (by kernel_rfl) (by kernel_rfl) (fun _ _ _ h => h) (Or.inl ⟨by rfl, ?hb9⟩) (by assumption) ?rb9
                      case hb9 => intro w hSw; (try dsimp only at hSw); go_simp; (try with_reducible rfl)
                      simp only [Act.put, List.getElem_toArray, List.getElem_cons_zero, List.getElem_cons_succ, List.setIfInBounds_toArray, List.set_cons_zero, List.set_cons_succ]
                      refine wpAnyH_take (i := 10) (v := ?vb10) rfl (by kernel_rfl) (by kernel_rfl) (by kernel_rfl) (fun _ _ _ h => h) (Or.inl ⟨by rfl, ?hb10⟩) (by assumption) ?rb10
                      case hb10 => intro w hSw; (try dsimp only at hSw); go_simp; (try with_reducible rfl)
                      simp only [Act.put, List.getElem_toArray, List.getElem_cons_zero, List.getElem_cons_succ, List.setIfInBounds_toArray, List.set_cons_zero, List.set_cons_succ]
                      refine wpAnyH_take (i := 11) (v := ?vb11) rfl (by kernel_rfl) (by kernel_rfl) (by kernel_rfl) (fun _ _ _ h => h) (Or.inl ⟨by rfl, ?hb11⟩) (by assumption) ?rb11
                      case hb11 => intro w hSw; (try dsimp only at hSw); go_simp; (try with_reducible rfl)
                      simp only [Act.put, List.getElem_toArray, List.getElem_cons_zero, List.getElem_cons_succ, List.setIfInBounds_toArray, List.set_cons_zero, List.set_cons_succ]
                      refine wpAnyH_take (i := 12) (v := ?vb12) rfl (by kernel_rfl) (by kernel_rfl) (by kernel_rfl) (fun _ _ _ h => h) (Or.inl ⟨by rfl, ?hb12⟩) (by assumption) ?rb12
                      case hb12 => intro w hSw; (try dsimp only at hSw); go_simp; (try with_reducible rfl)
                      simp only [Act.put, List.getElem_toArray, List.getElem_cons_zero, List.getElem_cons_succ, List.setIfInBounds_toArray, List.set_cons_zero, List.set_cons_succ]
                      refine wpAnyH_take (i := 13) (v := ?vb13) rfl (by kernel_rfl) (by kernel_rfl) (by kernel_rfl) (fun _ _ _ h => h) (Or.inl ⟨by rfl, ?hb13⟩) (by assumption) ?rb13
                      case hb13 => intro w hSw; (try dsimp only at hSw); go_simp; (try with_reducible rfl)
                      simp only [Act.put, List.getElem_toArray, List.getElem_cons_zero, List.getElem_cons_succ, List.setIfInBounds_toArray, List.set_cons_zero, List.set_cons_succ]
                      refine wpAnyH_ready (rs := [14]) (by kernel_rfl) (by simp) ?_
                      refine AllReadyH.cons rfl (fun K2 hK2 => ?_) AllReadyH.nil
                      go_simp
                      refine (CP.out _ (HSL.out _ hHeld2.2)).mono ?_
                      rintro e w2 ⟨⟨kk, rfl, hkk⟩, rfl⟩
                      refine hK2.out _ _ hHeld2 (fun _ => ?_)
                      clear hK2 K2
                      try simp only [Act.put, List.getElem_toArray, List.getElem_cons_zero, List.getElem_cons_succ, List.setIfInBounds_toArray, List.set_cons_zero, List.set_cons_succ]
                      refine wpAnyH_take (i := 15) (v := ?vb15) rfl (by kernel_rfl) (by kernel_rfl) (by kernel_rfl) (fun _ _ _ h => h) (Or.inl ⟨by rfl, ?hb15⟩) (by assumption) ?rb15
                      case hb15 => intro w hSw; (try dsimp only at hSw); go_simp; (try with_reducible rfl)
                      simp only [Act.put, List.getElem_toArray, List.getElem_cons_zero, List.getElem_cons_succ, List.setIfInBounds_toArray, List.set_cons_zero, List.set_cons_succ]
                      refine wpAnyH_take (i := 16) (v := ?vb16) rfl (by kernel_rfl) (by kernel_rfl) (by kernel_rfl) (fun _ _ _ h => h) (Or.inl ⟨by rfl, ?hb16⟩) (by assumption) ?rb16
                      case hb16 => intro w hSw; (try dsimp only at hSw); go_simp; (try with_reducible rfl)
                      simp only [Act.put, List.getElem_toArray, List.getElem_cons_zero, List.getElem_cons_succ, List.setIfInBounds_toArray, List.set_cons_zero, List.set_cons_succ]
                      refine wpAnyH_done (by kernel_rfl) ?_ _
                      have hEnd := hHeld2.2
                      clear hHeld2
                      go_wp2_with fail
                      go_roundw
                      case rel => exact ⟨q + 1, by omega, by go_num, HT2.out, HE2.out.ext hEnd⟩
                      case measure => simp [intOf]; omega
                    · have HT2 := Lib.hid (HGB.out (by rw [HG.out]; rfl))
                      clear HG HGB
                      go_wp2_with fail
                      refine wp_region_held_drew (S := fun w' => w'.cell? ⟨g, q, none⟩ = some (.string x) ∧ Ext wr w') (by kernel_rfl) (HZ.out _ (Chg.refl _ _).drew) (fun hHeld => ?_)
                      refine wpAnyH_take (i := 0) (v := ?vc0) rfl (by kernel_rfl) (by kernel_rfl) (by kernel_rfl) (fun _ _ _ h => h) (Or.inl ⟨by rfl, ?hc0⟩) (by assumption) ?rc0
                      case hc0 => intro w hSw; (try dsimp only at hSw); go_simp; (try with_reducible rfl)
                      simp only [Act.put, List.getElem_toArray, List.getElem_cons_zero, List.setIfInBounds_toArray, List.set_cons_zero, List.set_cons_succ]
                      refine wpAnyH_take (i := 1) (v := ?vc1) rfl (by kernel_rfl) (by kernel_rfl) (by kernel_rfl) (fun _ _ _ h => h) (Or.inl ⟨by rfl, ?hc1⟩) (by assumption) ?rc1
                      case hc1 => intro w hSw; (try dsimp only at hSw); go_simp; (try with_reducible rfl)
                      simp only [Act.put, List.getElem_toArray, List.getElem_cons_zero, List.getElem_cons_succ, List.setIfInBounds_toArray, List.set_cons_zero, List.set_cons_succ]
                      refine wpAnyH_take (i := 2) (v := ?vc2) rfl (by kernel_rfl) (by kernel_rfl) (by kernel_rfl) (fun _ _ _ h => h) (Or.inl ⟨by rfl, ?hc2⟩) (by assumption) ?rc2
                      case hc2 => intro w hSw; (try dsimp only at hSw); go_simp; (try with_reducible rfl)
                      simp only [Act.put, List.getElem_toArray, List.getElem_cons_zero, List.getElem_cons_succ, List.setIfInBounds_toArray, List.set_cons_zero, List.set_cons_succ]
                      refine wpAnyH_take (i := 3) (v := ?vc3) rfl (by kernel_rfl) (by kernel_rfl) (by kernel_rfl) (fun _ _ _ h => h) (Or.inl ⟨by rfl, ?hc3⟩) (by assumption) ?rc3
                      case hc3 => intro w hSw; (try dsimp only at hSw); go_simp; (try with_reducible rfl)
                      simp only [Act.put, List.getElem_toArray, List.getElem_cons_zero, List.getElem_cons_succ, List.setIfInBounds_toArray, List.set_cons_zero, List.set_cons_succ]
                      refine wpAnyH_ready (rs := [4]) (by kernel_rfl) (by simp) ?_
                      refine AllReadyH.cons rfl (fun K2 hK2 => ?_) AllReadyH.nil
                      go_simp
                      refine (CN.out _).mono ?_
                      rintro e w' ⟨rfl, hE'⟩
                      refine hK2.out _ _ (HZ.out _ (sl_next hHeld hE')) (fun hHeld2 => ?_)
                      clear hK2 K2 hHeld hE'
                      try simp only [Act.put, List.getElem_toArray, List.getElem_cons_zero, List.getElem_cons_succ, List.setIfInBounds_toArray, List.set_cons_zero, List.set_cons_succ]
                      refine wpAnyH_take (i := 5) (v := ?vc5) rfl (by kernel_rfl) (by kernel_rfl) (by kernel_rfl) (fun _ _ _ h => h) (Or.inl ⟨by rfl, ?hc5⟩) (by assumption) ?rc5
                      case hc5 => intro w hSw; (try dsimp only at hSw); go_simp; (try with_reducible rfl)
                      simp only [Act.put, List.getElem_toArray, List.getElem_cons_zero, List.getElem_cons_succ, List.setIfInBounds_toArray, List.set_cons_zero, List.set_cons_succ]
                      refine wpAnyH_take (i := 6) (v := ?vc6) rfl (by kernel_rfl) (by kernel_rfl) (by kernel_rfl) (fun _ _ _ h => h) (Or.inl ⟨by rfl, ?hc6⟩) (by assumption) ?rc6
                      case hc6 => intro w hSw; (try dsimp only at hSw); go_simp; (try with_reducible rfl)
                      simp only [Act.put, List.getElem_toArray, List.getElem_cons_zero, List.getElem_cons_succ, List.setIfInBounds_toArray, List.set_cons_zero, List.set_cons_succ]
                      refine wpAnyH_take (i := 7) (v := ?vc7) rfl (by kernel_rfl) (by kernel_rfl) (by kernel_rfl) (fun _ _ _ h => h) (Or.inl ⟨by rfl, ?hc7⟩) (by assumption) ?rc7
                      case hc7 => intro w hSw; (try dsimp only at hSw); go_simp; (try with_reducible rfl)
                      simp only [Act.put, List.getElem_toArray, List.getElem_cons_zero, List.getElem_cons_succ, List.setIfInBounds_toArray, List.set_cons_zero, List.set_cons_succ]
                      refine wpAnyH_take (i := 8) (v := ?vc8) rfl (by kernel_rfl) (by kernel_rfl) (by kernel_rfl) (fun _ _ _ h => h) (Or.inl ⟨by rfl, ?hc8⟩) (by assumption) ?rc8
                      case hc8 => intro w hSw; (try dsimp only at hSw); go_simp; (try with_reducible rfl)
                      simp only [Act.put, List.getElem_toArray, List.getElem_cons_zero, List.getElem_cons_succ, List.setIfInBounds_toArray, List.set_cons_zero, List.set_cons_succ]
                      refine wpAnyH_take (i := 9) (v := ?vc9) rfl (by kernel_rfl) (by kernel_rfl) (by kernel_rfl) (fun _ _ _ h => h) (Or.inl ⟨by rfl, ?hc9⟩) (by assumption) ?rc9
                      case hc9 => intro w hSw; (try dsimp only at hSw); go_simp; (try with_reducible rfl)
                      simp only [Act.put, List.getElem_toArray, List.getElem_cons_zero, List.getElem_cons_succ, List.setIfInBounds_toArray, List.set_cons_zero, List.set_cons_succ]
                      refine wpAnyH_take (i := 10) (v := ?vc10) rfl (by kernel_rfl) (by kernel_rfl) (by kernel_rfl) (fun _ _ _ h => h) (Or.inl ⟨by rfl, ?hc10⟩) (by assumption) ?rc10
                      case hc10 => intro w hSw; (try dsimp only at hSw); go_simp; (try with_reducible rfl)
                      simp only [Act.put, List.getElem_toArray, List.getElem_cons_zero, List.getElem_cons_succ, List.setIfInBounds_toArray, List.set_cons_zero, List.set_cons_succ]
                      refine wpAnyH_take (i := 11) (v := ?vc11) rfl (by kernel_rfl) (by kernel_rfl) (by kernel_rfl) (fun _ _ _ h => h) (Or.inl ⟨by rfl, ?hc11⟩) (by assumption) ?rc11
                      case hc11 => intro w hSw; (try dsimp only at hSw); go_simp; (try with_reducible rfl)
                      simp only [Act.put, List.getElem_toArray, List.getElem_cons_zero, List.getElem_cons_succ, List.setIfInBounds_toArray, List.set_cons_zero, List.set_cons_succ]
                      refine wpAnyH_take (i := 12) (v := ?vc12) rfl (by kernel_rfl) (by kernel_rfl) (by kernel_rfl) (fun _ _ _ h => h) (Or.inl ⟨by rfl, ?hc12⟩) (by assumption) ?rc12
                      case hc12 => intro w hSw; (try dsimp only at hSw); go_simp; (try with_reducible rfl)
                      simp only [Act.put, List.getElem_toArray, List.getElem_cons_zero, List.getElem_cons_succ, List.setIfInBounds_toArray, List.set_cons_zero, List.set_cons_succ]
                      refine wpAnyH_take (i := 13) (v := ?vc13) rfl (by kernel_rfl) (by kernel_rfl) (by kernel_rfl) (fun _ _ _ h => h) (Or.inl ⟨by rfl, ?hc13⟩) (by assumption) ?rc13
                      case hc13 => intro w hSw; (try dsimp only at hSw); go_simp; (try with_reducible rfl)
                      simp only [Act.put, List.getElem_toArray, List.getElem_cons_zero, List.getElem_cons_succ, List.setIfInBounds_toArray, List.set_cons_zero, List.set_cons_succ]
                      refine wpAnyH_ready (rs := [14]) (by kernel_rfl) (by simp) ?_
                      refine AllReadyH.cons rfl (fun K2 hK2 => ?_) AllReadyH.nil
                      go_simp
                      refine (CP.out _ (HSL.out _ hHeld2.2)).mono ?_
                      rintro e w2 ⟨⟨kk, rfl, hkk⟩, rfl⟩
                      refine hK2.out _ _ hHeld2 (fun _ => ?_)
                      clear hK2 K2
                      try simp only [Act.put, List.getElem_toArray, List.getElem_cons_zero, List.getElem_cons_succ, List.setIfInBounds_toArray, List.set_cons_zero, List.set_cons_succ]
                      refine wpAnyH_take (i := 15) (v := ?vc15) rfl (by kernel_rfl) (by kernel_rfl) (by kernel_rfl) (fun _ _ _ h => h) (Or.inl ⟨by rfl, ?hc15⟩) (by assumption) ?rc15
                      case hc15 => intro w hSw; (try dsimp only at hSw); go_simp; (try with_reducible rfl)
                      simp only [Act.put, List.getElem_toArray, List.getElem_cons_zero, List.getElem_cons_succ, List.setIfInBounds_toArray, List.set_cons_zero, List.set_cons_succ]
                      refine wpAnyH_take (i := 16) (v := ?vc16) rfl (by kernel_rfl) (by kernel_rfl) (by kernel_rfl) (fun _ _ _ h => h) (Or.inl ⟨by rfl, ?hc16⟩) (by assumption) ?rc16
                      case hc16 => intro w hSw; (try dsimp only at hSw); go_simp; (try with_reducible rfl)
                      simp only [Act.put, List.getElem_toArray, List.getElem_cons_zero, List.getElem_cons_succ, List.setIfInBounds_toArray, List.set_cons_zero, List.set_cons_succ]
                      refine wpAnyH_done (by kernel_rfl) ?_ _
                      have hEnd := hHeld2.2
                      clear hHeld2
                      go_wp2_with fail
                      go_ret
                      exact ⟨ret_bool HT2.out.symm, HEz.out.ext hEnd⟩
                · obtain rfl : q = m := by omega
                  have HT2 := Lib.hid (HFIN.out (by have := hrel.out; rw [List.take_of_length_le (by rw [HKL.out]; exact Nat.le_refl _)] at this; exact this))
                  go_wp2_with fail
                  go_ret
                  exact ⟨ret_bool HT2.out.symm, hE0.ext hEz⟩
    · have hF : (true && decide (n1 + n2 ≤ 20) && xv.all varT && xp.all procT && goodB K) = false := by
        rw [decide_eq_false h20]; rfl
      rw [hF]
      go_enter Tryz.func109, Tryz.ntmps109
      go_wp2_with fail
      refine (HNM.out _).mono ?_
      rintro e w1 ⟨rfl, hE1⟩
      have hX := HB1.out.ext hE1
      have hEw := HE.out.ext hE1
      have x0 := hX.cell 0
      have x1 := hX.cell 1
      have x2 := hX.cell 2
      simp at x0
      simp at x1
      simp at x2
      have hzz : w.heap.size < w1.heap.size := hX.lt
      have HEw := Lib.hid hEw
      clear hX hEw hE1 hz
      by_cases c1 : 20 < n1
      · have c1i : (20 : Int) < (n1 : Int) := by omega
        go_wp2_with fail
        go_ret
        exact ⟨rfl, HEw.out⟩
      · have c1i : ¬ (20 : Int) < (n1 : Int) := by omega
        by_cases c2 : 20 < n2
        · have c2i : (20 : Int) < (n2 : Int) := by omega
          go_wp2_with fail
          go_ret
          exact ⟨rfl, HEw.out⟩
        · have c2i : ¬ (20 : Int) < (n2 : Int) := by omega
          have c3i : (20 : Int) < (n1 : Int) + (n2 : Int) := by omega
          go_wp2_with fail
          go_ret
          exact ⟨rfl, HEw.out⟩
end rface
end Go.Proofs.YtpcihajmcejliabGreatDoor
