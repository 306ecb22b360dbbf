/- The walk of chapter 11's reference: Link. -/
import Derived.Test.YtpcihajmcejliabGreatDoorRLinkC
import Derived.StillTactics
import Derived.StillTailTactics
namespace Go.Proofs.YtpcihajmcejliabGreatDoor
open Go.RowKit Go.WideMaps Go.Maps
namespace rlink
open linkw face
/-- the reference's image while it grows -/
structure ImB (w : World) (mb : Nat) (vi : Value) (g ci : Nat) (is : List Ins) (lo hi : Int) : Prop where
  sb : Blk w mb #[vi, .int .i64 lo, .int .i64 hi] 25
  ins : InsRow w (mb + 1) (.slice (some ⟨g, 0, none⟩) is.length ci) is
section
variable {w w' : World} {mb : Nat} {vi : Value} {g ci : Nat} {is : List Ins} {lo hi : Int}
theorem ImB.ext (h : ImB w mb vi g ci is lo hi) (hE : Ext w w') : ImB w' mb vi g ci is lo hi := ⟨h.sb.ext hE, ownsRow_ext h.ins hE⟩
theorem ImB.base (h : ImB w mb vi g ci is lo hi) : mb + 1 ≤ g ∧ g < w.heap.size := World.ownsRow.lt h.ins g rfl
theorem ImB.store (h : ImB w mb vi g ci is lo hi) (v : Value) : ImB (w.setCell ⟨mb, 0, none⟩ v) mb v g ci is lo hi := by
  have hc : Chg (fun i => i = mb) w (w.setCell ⟨mb, 0, none⟩ v) := (Chg.refl (fun i => i = mb) w).setCell (fun _ => rfl) _
  exact ⟨h.sb.set 0 v, ownsRow_chg h.ins hc fun i hi e => by omega⟩
theorem ImB.frz (h : ImB w mb vi g ci is lo hi) (o : Nat) : w.frozen? ⟨g, o, none⟩ = false := by
  obtain ⟨-, h2⟩ := h.ins
  rcases h2 with ⟨h2, -⟩ | ⟨g', cap', cur, hv, hb, hh, -⟩
  · cases h2
  · obtain rfl : g = g' := by have := hv; simp only [Value.slice.injEq, Option.some.injEq, Addr.mk.injEq] at this; exact this.1.1
    exact Blk.frozen (show Blk w g cur _ from hh) o
theorem ImB.add (h : ImB w mb vi g ci is lo hi) {j : Nat} (hj : j < is.length) (x : Int) : ImB (w.setCell ⟨g, j * 5 + 4, none⟩ (.int .i64 x)) mb vi g ci (setN is j x) lo hi := by
  have hg := h.base.1
  have hc : Chg (fun i => i = g) w (w.setCell ⟨g, j * 5 + 4, none⟩ (.int .i64 x)) := (Chg.refl (fun i => i = g) w).setCell (fun _ => rfl) _
  exact ⟨h.sb.chg hc (by omega), by rw [setN_len]; exact InsRow.put h.ins rfl hj x⟩
theorem ImB.app {g' cap' : Nat} {news : List Ins} (h : ImB w mb vi g ci is lo hi)
    (ho : w'.ownsRow (mb + 1) 98 5 (.slice (some ⟨g', 0, none⟩) (is.length + news.length) cap') (is.length + news.length) (is.flatMap insCells ++ news.flatMap insCells)) (hgr : w.grownBy w' (Value.slice (some ⟨g, 0, none⟩) is.length ci).ownBlock) :
    ImB w' mb vi g' cap' (is ++ news) lo hi ∧ Chg (fun i => i = g) w w' := by
  have hg := h.base.1
  have hc : Chg (fun i => i = g) w w' := ⟨hgr.os, hgr.tape, hgr.output, hgr.size, fun k hk hn => hgr.block k hk fun e => hn (by simpa [Value.ownBlock] using e)⟩
  exact ⟨⟨h.sb.chg hc (by omega), by unfold InsRow; rw [List.length_append, List.flatMap_append]; exact ho⟩, hc⟩
end
theorem res_two {w u : World} {R E : Nat} {a b c d e f : Value} (hX : Ext w u) (hR : Blk u R #[a, b, c] 25) (hE : Blk u E #[d, e, f] 28) (hRw : w.heap.size ≤ R) (hEw : w.heap.size ≤ E) (hne : R ≠ E) (x y z p q r : Value) :
    Blk ((((((u.setCell ⟨R, 0, none⟩ x).setCell ⟨R, 1, none⟩ y).setCell ⟨R, 2, none⟩ z).setCell ⟨E, 0, none⟩ p).setCell ⟨E, 1, none⟩ q).setCell ⟨E, 2, none⟩ r) R #[x, y, z] 25 ∧
    Blk ((((((u.setCell ⟨R, 0, none⟩ x).setCell ⟨R, 1, none⟩ y).setCell ⟨R, 2, none⟩ z).setCell ⟨E, 0, none⟩ p).setCell ⟨E, 1, none⟩ q).setCell ⟨E, 2, none⟩ r) E #[p, q, r] 28 ∧
    Ext w ((((((u.setCell ⟨R, 0, none⟩ x).setCell ⟨R, 1, none⟩ y).setCell ⟨R, 2, none⟩ z).setCell ⟨E, 0, none⟩ p).setCell ⟨E, 1, none⟩ q).setCell ⟨E, 2, none⟩ r) :=
  ⟨(Blk.three hR x y z).chg (three_chg _ E p q r) hne, Blk.three (hE.chg (three_chg u R x y z) hne.symm) p q r, three_new (three_new hX hRw x y z) hEw p q r⟩
theorem res_ins {u : World} {B R E : Nat} {v : Value} {is : List Ins} (h : InsRow u B v is) (hR : R < B) (hE : E < B) (x y z p q r : Value) :
    InsRow ((((((u.setCell ⟨R, 0, none⟩ x).setCell ⟨R, 1, none⟩ y).setCell ⟨R, 2, none⟩ z).setCell ⟨E, 0, none⟩ p).setCell ⟨E, 1, none⟩ q).setCell ⟨E, 2, none⟩ r) B v is :=
  ownsRow_chg (ownsRow_chg h (three_chg u R x y z) fun i hi e => by omega) (three_chg _ E p q r) fun i hi e => by omega
set_option maxRecDepth 100000 in
set_option maxHeartbeats 32000000 in
theorem rlink_any (a : Option Addr) (l : List FObj) (n cap : Nat) (w : World) (hn : l.length = n) (hl : AllIn 13 ObjIn w a l) (hcap : n ≤ cap) (hsm : ∀ x ∈ l, ObjSmall x) :
    Calls Tryz.prog 15 #[.slice a n cap] w (LinkPost w (linkF l)) := by
  obtain ⟨T, hT⟩ : ∃ T, linkF l = T := ⟨_, rfl⟩
  have hwc := wrong_cases l
  have HWR := Lib.hid (fun (u : World) (hE : Ext w u) => rwrong_any a l n cap u hn (hl.mono hE.size fun _ _ _ hb h => ObjIn.ext hE hb h) hcap hsm)
  rw [hT] at hwc ⊢
  obtain ⟨R, hRe⟩ : ∃ R, w.heap.size = R := ⟨_, rfl⟩
  obtain ⟨E, hEe⟩ : ∃ E, R + 1 = E := ⟨_, rfl⟩
  have hR0 : Blk ((w.alloc (.cells zeroImg 25)).alloc (.cells #[.int .i64 0, .int .i64 0, .int .i64 0] 28)) R zeroImg 25 := by
    rw [← hRe]; exact (Blk.made w _ _).alloc _
  have hE0 : Blk ((w.alloc (.cells zeroImg 25)).alloc (.cells #[.int .i64 0, .int .i64 0, .int .i64 0] 28)) E #[.int .i64 0, .int .i64 0, .int .i64 0] 28 := by
    rw [← hEe, ← hRe]; exact Blk.made2 w _ _ _
  have hX0 : Ext w ((w.alloc (.cells zeroImg 25)).alloc (.cells #[.int .i64 0, .int .i64 0, .int .i64 0] 28)) := ((Chg.refl _ _).alloc _).alloc _
  have HT := Lib.hid hT
  have HN := Lib.hid hn
  have HOBJ := Lib.hid (fun (u : World) (hE : Ext w u) => (hl.mono hE.size fun _ _ _ hb h => ObjIn.ext hE hb h : AllIn 13 ObjIn u a l))
  have HSM := Lib.hid hsm
  have HWC := Lib.hid hwc
  clear hT hn hl hsm hwc
  unfold zeroImg at hR0 hE0 hX0
  go_enter Tryz.func15, Tryz.ntmps15
  go_wp2_with fail
  generalize (w.alloc (.cells #[.slice none 0 0, .int .i64 0, .int .i64 0] 25)).alloc (.cells #[.int .i64 0, .int .i64 0, .int .i64 0] 28) = w0 at *
  refine (HWR.out w0 hX0).mono ?_
  rintro e w1 ⟨rfl, hE1⟩
  have hR1 := hR0.ext hE1
  have hE1b := hE0.ext hE1
  have hX1 := hX0.ext hE1
  clear hR0 hE0 hX0 hE1
  rcases HWC.out with ⟨m, c, k, hw, hc, hb⟩ | ⟨hw, m, hok, hf1, hf2, hf3, hf4, hend⟩
  · have HB := Lib.hid hb
    rw [hw]
    simp only [trV]
    clear hw hb
    have hcd : decide (c = 0) = false := by simpa using hc
    have KT := Blk.made w1 #[.int .i64 m, .int .i64 c, .int .i64 k] 28
    have hR2 := hR1.alloc (.cells #[.int .i64 m, .int .i64 c, .int .i64 k] 28)
    have hE2 := hE1b.alloc (.cells #[.int .i64 m, .int .i64 c, .int .i64 k] 28)
    have hX2 := hX1.alloc (.cells #[.int .i64 m, .int .i64 c, .int .i64 k] 28)
    have hRl := hR1.lt
    have hEl := hE1b.lt
    clear hR1 hE1b hX1
    go_wp2_with fail
    generalize w1.alloc (.cells #[.int .i64 m, .int .i64 c, .int .i64 k] 28) = w2 at *
    obtain ⟨X, hXe⟩ : ∃ q, w1.heap.size = q := ⟨_, rfl⟩
    rw [hXe] at KT hRl hEl ⊢
    obtain ⟨CB, hCB⟩ : ∃ q, (c != 0) = q := ⟨_, rfl⟩
    rw [hCB]
    clear hCB hcd hc
    refine wp_region_chain [2, 3] [.agg #[.slice none 0 0, .int .i64 0, .int .i64 0], .agg #[.int .i64 m, .int .i64 c, .int .i64 k], undef, undef] (fun vs u => Blk u X #[.int .i64 m, .int .i64 c, .int .i64 k] 28 ∧ Chg (fun i => i = R ∨ i = E) w2 u ∧ Blk u R #[.slice none 0 0, .int .i64 0, .int .i64 0] 25 ∧ (match vs with | [] => Blk u E #[.int .i64 0, .int .i64 0, .int .i64 0] 28 | [_] => Blk u E #[.int .i64 0, .int .i64 0, .int .i64 0] 28 | _ => Blk u E #[.int .i64 m, .int .i64 c, .int .i64 k] 28)) (frame := ?fraa) (fun x => ?hfaa) mixed (by kernel_rfl) ?h0a ?sta ?fina
    case hfaa =>
      simp only [chain.frameOf, chain.fill, chain.setOpt, chain.dstOf, List.size_toArray, List.length_cons, List.length_nil, List.getElem?_toArray, List.getElem?_cons_succ, List.getElem?_cons_zero, List.setIfInBounds_toArray, List.set_cons_succ, List.set_cons_zero]
      exact rfl
    case h0a => exact ⟨KT.drew, (Chg.refl _ _).drew, hR2.drew, hE2.drew⟩
    case sta =>
      refine AllFrom.cons (fun x vs u hF hm hd K' hK' => ?sa0) (AllFrom.cons (fun x vs u hF hm hd K' hK' => ?sa1) (AllFrom.cons (fun x vs u hF hm hd K' hK' => ?sa2) (AllFrom.cons (fun x vs u hF hm hd K' hK' => ?sa3) (AllFrom.nil))))
      case sa0 =>
        clear hd hm hF
        go_simp
        exact hK'.out _ _ _ rfl ⟨rfl, rfl⟩
      case sa1 =>
        have hTc := hF.1.cell
        clear hd hm hF
        go_simp
        exact hK'.out _ _ _ rfl ⟨rfl, rfl⟩
      case sa2 =>
        obtain rfl := List.eq_nil_of_length_eq_zero (hm 0 (by kernel_rfl))
        obtain ⟨hS, hC, hR, hE⟩ := hF
        have y0 := hd 0 25 (by decide) (by kernel_rfl) (by kernel_rfl)
        replace y0 : x 25 = .agg #[.slice none 0 0, .int .i64 0, .int .i64 0] := y0
        have hRc := hR.cell
        have hRf := hR.frozen
        have hRl := hR.lt
        have hC2 := three_chg u R (.slice none 0 0) (.int .i64 0) (.int .i64 0)
        clear hd hm
        go_simp
        exact hK'.out _ _ undef (by simp only [y0]; rfl) ⟨hS.chg hC2 (by omega), hC.then (hC2.weak fun i _ e => Or.inl e), Blk.three hR _ _ _, hE.chg hC2 (by omega)⟩
      case sa3 =>
        obtain ⟨x1, rfl⟩ : ∃ x1, vs = [x1] := by match vs, hm 1 (by kernel_rfl) with | [x1], _ => exact ⟨_, rfl⟩
        obtain ⟨hS, hC, hR, hE⟩ := hF
        have y0 := hd 1 26 (by decide) (by kernel_rfl) (by kernel_rfl)
        replace y0 : x 26 = .agg #[.int .i64 m, .int .i64 c, .int .i64 k] := y0
        have hEc := hE.cell
        have hEf := hE.frozen
        have hEl := hE.lt
        have hC2 := three_chg u E (.int .i64 m) (.int .i64 c) (.int .i64 k)
        clear hd hm
        go_simp
        exact hK'.out _ _ undef (by simp only [y0]; rfl) ⟨hS.chg hC2 (by omega), hC.then (hC2.weak fun i _ e => Or.inr e), hR.chg hC2 (by omega), Blk.three hE _ _ _⟩
    case fina =>
      intro x vs u hl hF hq
      clear hq
      obtain ⟨x1, x2, rfl⟩ : ∃ x1 x2, vs = [x1, x2] := by match vs, hl with | [_, _], _ => exact ⟨_, _, rfl⟩
      obtain ⟨-, hC, hR9, hE9⟩ := hF
      have hX9 := hX2.trans hC (fun i hi e => by omega)
      clear hl
      go_wp2_with fail
      refine bodyPost_ret (v := .tuple #[_, _]) (results_aa (p := 2) (q := 3) rfl _ _ rfl hR9 Tryz.underlying25 rfl (by kernel_rfl) rfl hE9 Tryz.underlying28 rfl (by kernel_rfl)) rfl ?_
      exact linkp_bad hX9 HB.out
  · have HEND := Lib.hid hend
    rw [hw]
    simp only [trV]
    clear hw hend
    have HF2 := Lib.hid hf2
    have HF3 := Lib.hid hf3
    have HF4 := Lib.hid hf4
    have h1 : 1 ≤ (n : Int) := by have := hok.1; rw [HN.out] at this; omega
    have h6 : (n : Int) ≤ 6 := by have := hok.2; rw [HN.out] at this; omega
    have HMAY := Lib.hid (fun (x : FObj) (hx : x ∈ l) => may_facts (forms_none hf1 x hx) (HSM.out x hx))
    have HKD := Lib.hid (fun (x : FObj) (hx : x ∈ l) => rel_kinds (forms_none hf1 x hx))
    clear hf1 hf2 hf3 hf4 hok
    have hX2 := hX1.alloc (.cells #[.int .i64 0, .int .i64 0, .int .i64 0] 28)
    have hR2 := hR1.alloc (.cells #[.int .i64 0, .int .i64 0, .int .i64 0] 28)
    have hE2 := hE1b.alloc (.cells #[.int .i64 0, .int .i64 0, .int .i64 0] 28)
    have HBASE := Lib.hid (fun (u : World) (q : Nat) (kind : Int) (hq : q ≤ n) (hk1 : 1 ≤ kind) (hk4 : kind ≤ 4) (hE : Ext w u) => rbase_any a l n cap q kind u HN.out (HOBJ.out u hE) hq (by omega) hk1 hk4 (fun x hx => (HMAY.out x hx).1))
    clear hR1 hE1b hX1
    go_wp2_with fail
    generalize w1.alloc (.cells #[.int .i64 0, .int .i64 0, .int .i64 0] 28) = w2 at *
    refine (HBASE.out w2 n 3 (Nat.le_refl _) (by decide) (by decide) hX2).mono ?_
    rintro e w3 ⟨rfl, rfl⟩
    obtain ⟨LO, hLO⟩ : ∃ q, rBase l n 3 = q := ⟨_, rfl⟩
    rw [hLO]
    have HLO := Lib.hid (show baseF FObj.low 0 l n = LO from hLO)
    go_wp2_with fail
    refine (HBASE.out w2 n 4 (Nat.le_refl _) (by decide) (by decide) hX2).mono ?_
    rintro e w3 ⟨rfl, rfl⟩
    obtain ⟨HI, hHI⟩ : ∃ q, rBase l n 4 = q := ⟨_, rfl⟩
    rw [hHI]
    have HHI := Lib.hid (show baseF FObj.high 0 l n = HI from hHI)
    have hlb := rBase_le (fun x hx => (HMAY.out x hx).1) (q := n) (by rw [HN.out]; exact Nat.le_refl _) (by omega) 3
    have hhb := rBase_le (fun x hx => (HMAY.out x hx).1) (q := n) (by rw [HN.out]; exact Nat.le_refl _) (by omega) 4
    rw [hLO] at hlb
    rw [hHI] at hhb
    clear hLO hHI
    go_wp2_with fail
    have hX3 := hX2.alloc (.cells #[.slice none 0 0, .int .i64 0, .int .i64 0] 25)
    have hR3 := hR2.alloc (.cells #[.slice none 0 0, .int .i64 0, .int .i64 0] 25)
    have hE3 := hE2.alloc (.cells #[.slice none 0 0, .int .i64 0, .int .i64 0] 25)
    have KM := Blk.made w2 #[.slice none 0 0, .int .i64 0, .int .i64 0] 25
    have hRl := hR2.lt
    have hEl := hE2.lt
    clear hX2 hR2 hE2
    generalize w2.alloc (.cells #[.slice none 0 0, .int .i64 0, .int .i64 0] 25) = w4 at *
    obtain ⟨mb, hmb⟩ : ∃ q, w2.heap.size = q := ⟨_, rfl⟩
    rw [hmb] at KM hRl hEl ⊢
    have hwm : w.heap.size ≤ mb := by omega
    clear hmb
    refine (rmain_any a l n cap w4 HN.out (HOBJ.out w4 hX3) (by omega) (fun x hx => (HMAY.out x hx).1) HSM.out (fun x hx => (HMAY.out x hx).2.1)).mono ?_
    rintro e w5 ⟨rfl, hE5⟩
    obtain ⟨MP, hMP⟩ : ∃ q, rMainF l = q := ⟨_, rfl⟩
    rw [hMP]
    have HMP := Lib.hid (show baseF codeLen 4 l m.1 + m.2 = MP by rw [← hMP]; unfold rMainF; rw [HF4.out]; show _ = m.2 + baseF codeLen 4 l m.1; omega)
    have hX5 := hX3.ext hE5
    have hR5 := hR3.ext hE5
    have hE5b := hE3.ext hE5
    have KM5 := KM.ext hE5
    clear hMP hX3 hR3 hE3 KM hE5
    have hMc := KM5.cell
    have hMf := KM5.frozen
    have hMl := KM5.lt
    go_wp2_with fail
    clear hMc hMf
    obtain ⟨g0, hg0⟩ : ∃ q, w5.heap.size = q := ⟨_, rfl⟩
    have KM6 : Blk ((w5.setCell ⟨mb, 0, none⟩ (.slice (some ⟨g0, 0, none⟩) 4 4)).alloc (.cells #[.int .i64 1, .int .i64 6, .int .i64 0, .int .i64 0, .int .i64 LO, .int .i64 1, .int .i64 7, .int .i64 0, .int .i64 0, .int .i64 HI, .int .i64 11, .int .i64 0, .int .i64 0, .int .i64 0, .int .i64 MP, .int .i64 17, .int .i64 0, .int .i64 0, .int .i64 0, .int .i64 0] 98)) mb #[.slice (some ⟨g0, 0, none⟩) 4 4, .int .i64 0, .int .i64 0] 25 := Blk.alloc (KM5.set 0 _) _
    have KI6 : Blk ((w5.setCell ⟨mb, 0, none⟩ (.slice (some ⟨g0, 0, none⟩) 4 4)).alloc (.cells #[.int .i64 1, .int .i64 6, .int .i64 0, .int .i64 0, .int .i64 LO, .int .i64 1, .int .i64 7, .int .i64 0, .int .i64 0, .int .i64 HI, .int .i64 11, .int .i64 0, .int .i64 0, .int .i64 0, .int .i64 MP, .int .i64 17, .int .i64 0, .int .i64 0, .int .i64 0, .int .i64 0] 98)) g0 #[.int .i64 1, .int .i64 6, .int .i64 0, .int .i64 0, .int .i64 LO, .int .i64 1, .int .i64 7, .int .i64 0, .int .i64 0, .int .i64 HI, .int .i64 11, .int .i64 0, .int .i64 0, .int .i64 0, .int .i64 MP, .int .i64 17, .int .i64 0, .int .i64 0, .int .i64 0, .int .i64 0] 98 := by rw [← hg0]; exact Blk.madeSet w5 _ _ _ _
    have hC6 : Chg (fun i => i = mb) w5 ((w5.setCell ⟨mb, 0, none⟩ (.slice (some ⟨g0, 0, none⟩) 4 4)).alloc (.cells #[.int .i64 1, .int .i64 6, .int .i64 0, .int .i64 0, .int .i64 LO, .int .i64 1, .int .i64 7, .int .i64 0, .int .i64 0, .int .i64 HI, .int .i64 11, .int .i64 0, .int .i64 0, .int .i64 0, .int .i64 MP, .int .i64 17, .int .i64 0, .int .i64 0, .int .i64 0, .int .i64 0] 98)) := ((Chg.refl (fun i => i = mb) w5).setCell (fun _ => rfl) _).alloc _
    have hX6 := hX5.trans hC6 (fun i hi e => by omega)
    have hR6 := hR5.chg hC6 (by omega)
    have hE6 := hE5b.chg hC6 (by omega)
    rw [hg0]
    generalize (w5.setCell ⟨mb, 0, none⟩ (.slice (some ⟨g0, 0, none⟩) 4 4)).alloc (.cells #[.int .i64 1, .int .i64 6, .int .i64 0, .int .i64 0, .int .i64 LO, .int .i64 1, .int .i64 7, .int .i64 0, .int .i64 0, .int .i64 HI, .int .i64 11, .int .i64 0, .int .i64 0, .int .i64 0, .int .i64 MP, .int .i64 17, .int .i64 0, .int .i64 0, .int .i64 0, .int .i64 0] 98) = w6 at *
    have hgm : mb + 1 ≤ g0 := by omega
    have ehd : headF l n m = [⟨1, 6, 0, 0, LO⟩, ⟨1, 7, 0, 0, HI⟩, ⟨11, 0, 0, 0, MP⟩, ⟨17, 0, 0, 0, 0⟩] := by unfold headF; rw [HLO.out, HHI.out, HMP.out]
    have HIM6 := Lib.hid (show ImB w6 mb (.slice (some ⟨g0, 0, none⟩) (headF l n m).length 4) g0 4 (headF l n m) 0 0 by
      rw [ehd]; exact ⟨KM6, ⟨rfl, .inr ⟨g0, 4, _, rfl, hgm, KI6, Nat.le_refl _, by decide, rfl, rfl⟩⟩⟩)
    have HLEN6 := Lib.hid (show ((headF l n m).length : Int) = baseF codeLen 4 l 0 from rfl)
    obtain ⟨CS, hCS⟩ : ∃ q, basesF codeLen 4 l n = q := ⟨_, rfl⟩
    obtain ⟨LS, hLS⟩ : ∃ q, basesF FObj.low 0 l n = q := ⟨_, rfl⟩
    obtain ⟨HS, hHS⟩ : ∃ q, basesF FObj.high 0 l n = q := ⟨_, rfl⟩
    obtain ⟨RR, hRR⟩ : ∃ q, movesF l CS LS HS 0 (headF l n m) l = q := ⟨_, rfl⟩
    have HMV6 := Lib.hid (show movesF l CS LS HS 0 (headF l n m) (l.drop 0) = RR by simpa using hRR)
    have HRR := Lib.hid (show linkIs l m = RR by unfold linkIs; rw [HN.out, hCS, hLS, hHS, hRR])
    have HADD := Lib.hid (fun (x : FObj) (hx : x ∈ l) (r : FRel) (hr : r ∈ x.relocs) (hk : ¬r.kind = 1) (i : Nat) => (by have := stands_add HN.out HF2.out HF3.out hx hr hk i; rw [hCS, hLS, hHS] at this; exact this : relAdd l CS LS HS i r = standsF l r))
    have HOWN := Lib.hid (fun (i : Nat) (hi : i < n) (r : FRel) (hk : r.kind = 1) => (by have := own_add (l := l) hi hk LS HS; rw [hCS] at this; exact this : relAdd l CS LS HS i r = baseF codeLen 4 l i))
    have HSTD := Lib.hid (fun (u : World) (hE : Ext w u) (r : FRel) (h1 : 1 ≤ r.kind) (h2 : r.kind ≤ 4) => rstands_any a l n cap r u HN.out (HOBJ.out u hE) (by omega) h1 h2 (fun x hx => (HMAY.out x hx).1) (fun x hx => (HMAY.out x hx).2.1))
    have HMO0 := Lib.hid (show (0 : Int) = mostF FObj.lowF l 0 from rfl)
    clear KM6 KI6 hC6 hX5 hR5 hE5b KM5 ehd hCS hLS hHS hRR hMl hg0
    go_loopw [8, 9, 12] (fun lo hi i wr => ∃ (k g ci : Nat) (is : List Ins), k ≤ n ∧ i = .int .i64 k ∧ lo = .int .i64 (mostF FObj.lowF l k) ∧ hi = .int .i64 (mostF FObj.highF l k) ∧ Chg (fun i => mb ≤ i) w6 wr ∧ Hid ((is.length : Int) = baseF codeLen 4 l k) ∧ Hid (ImB wr mb (.slice (some ⟨g, 0, none⟩) is.length ci) g ci is 0 0) ∧ Hid (movesF l CS LS HS k is (l.drop k) = RR)) (fun _ _ i _ => n - (intOf i).toNat)
    case atStart => exact ⟨0, g0, 4, headF l n m, Nat.zero_le _, rfl, rfl, rfl, Chg.refl _ _, HLEN6, HIM6, HMV6⟩
    case round =>
      obtain ⟨k, g, ci, is, hk, rfl, rfl, rfl, hC, HLEN, HMk, hr⟩ := hrel
      obtain ⟨wo, rfl⟩ : ∃ wo, wo = wr := ⟨_, rfl⟩
      clear HIM6 HLEN6 HMV6
      have hMLb := mostF_le FObj.lowF 1000000 (by decide) (fun x hx => (HMAY.out x hx).1.2.2.2.2.2.2.1) k (by rw [HN.out]; exact hk)
      have hMHb := mostF_le FObj.highF 1000000 (by decide) (fun x hx => (HMAY.out x hx).1.2.2.2.2.2.2.2.2) k (by rw [HN.out]; exact hk)
      have hbl := baseF_le codeLen 4 1048576 (fun x hx => ⟨by unfold codeLen; omega, by unfold codeLen; have := (HMAY.out x hx).1.1; omega⟩) k (by rw [HN.out]; exact hk)
      have hle : (is.length : Int) ≤ 4 + 6 * 1048576 ∧ 4 ≤ (is.length : Int) := by rw [HLEN.out]; omega
      by_cases hlt : k < n
      · have hkl : k < l.length := by rw [HN.out]; exact hlt
        have hXo := hX6.trans hC (fun i hi e => by omega)
        obtain ⟨bo, o, rfl, hbo, hc⟩ := HOBJ.out w (Chg.refl _ _) k hkl
        obtain ⟨fa, am, fc, cm, ia, ic, ca, cc, ra, rc, pa, pc, la, lc, ha, hcp, -, -, -, -, h4, h5, -, -, -, -, -, h11, h12, HO0⟩ := hc
        have HCI := Lib.hid (fun (u : World) (h : Ext w u) => HO0.rows.2.2.1.mono h.size fun _ _ _ hb hi => InsIn5.ext h hb hi)
        have HRI := Lib.hid (fun (u : World) (h : Ext w u) => HO0.rows.2.2.2.1.mono h.size fun _ _ _ hb hi => RelIn.ext h hb hi)
        have hnu := (HMAY.out _ (List.getElem_mem hkl)).1
        have hnr := (HSM.out _ (List.getElem_mem hkl)).relocs
        have HST := Lib.hid (HSM.out _ (List.getElem_mem hkl)).strs
        have HRX := Lib.hid (HMAY.out _ (List.getElem_mem hkl)).2.2
        have HKX := Lib.hid (HKD.out _ (List.getElem_mem hkl))
        have HADX := Lib.hid (HADD.out _ (List.getElem_mem hkl))
        have HSTEP := Lib.hid (moves_step hkl hr.out)
        have HBS := Lib.hid (baseF_step codeLen 4 hkl)
        have HML := Lib.hid (mostF_step FObj.lowF hkl)
        have HMH := Lib.hid (mostF_step FObj.highF hkl)
        have hisp : 0 < is.length := by omega
        clear hr HO0
        generalize l[k] = x at *
        obtain ⟨xf, xi, xc, xr, op, ol, oh, lo, hi', lf, hf⟩ := x
        obtain ⟨xn, xv, xp⟩ := xf
        obtain ⟨hnu, -, -, -, -, hlf0, hlf1, hhf0, hhf1⟩ := hnu
        simp only at hnu hlf0 hlf1 hhf0 hhf1 hnr HST HRX HKX HADX HSTEP HBS HML HMH HCI HRI h4 h5 h11 h12
        obtain ⟨mc, hmc⟩ : ∃ m, xc.length = m := ⟨_, rfl⟩
        obtain ⟨mr, hmr⟩ : ∃ m, xr.length = m := ⟨_, rfl⟩
        rw [hmc] at hnu h4
        rw [hmr] at hnr h5
        have HMC := Lib.hid hmc
        have HMR := Lib.hid hmr
        have HC4 := Lib.hid (fun (u : World) (h : Ext w u) => (h.cell (p := ⟨bo, o + k * 13 + 4, none⟩) hbo id).trans h4)
        have HC5 := Lib.hid (fun (u : World) (h : Ext w u) => (h.cell (p := ⟨bo, o + k * 13 + 5, none⟩) hbo id).trans h5)
        have hc11 := (hXo.cell (p := ⟨bo, o + k * 13 + 11, none⟩) hbo id).trans h11
        have hc12 := (hXo.cell (p := ⟨bo, o + k * 13 + 12, none⟩) hbo id).trans h12
        have hbo2 := Nat.lt_of_lt_of_le hbo hXo.size
        have hxc := HMk.out.sb.cell
        have hxl := HMk.out.sb.lt
        have hgb := HMk.out.base
        obtain ⟨M1, hM1⟩ : ∃ q, q = max (mostF FObj.lowF l k) lf := ⟨_, rfl⟩
        obtain ⟨M2, hM2⟩ : ∃ q, q = max (mostF FObj.highF l k) hf := ⟨_, rfl⟩
        have HM1 := Lib.hid (show mostF FObj.lowF l (k + 1) = M1 by rw [HML.out, hM1])
        have HM2 := Lib.hid (show mostF FObj.highF l (k + 1) = M2 by rw [HMH.out, hM2])
        generalize mostF FObj.lowF l k = ML at *
        generalize mostF FObj.highF l k = MH at *
        have e1 : max ML lf = M1 := hM1.symm
        have e2 : max MH hf = M2 := hM2.symm
        have e3 : (if ML < lf then lf else ML) = M1 := by rw [max_if]; exact e1
        have e4 : (if MH < hf then hf else MH) = M2 := by rw [max_if]; exact e2
        clear hmc hmr h4 h5 h11 h12 hM1 hM2
        go_wp2_with fail
        clear hxc hc11 hc12 e1 e2 e3 e4
        have HWO := Lib.hid hXo
        have hBwo := hxl
        refine wp_region_weave [7, 9] (fun i => (([.val (.pointer (some ⟨mb, 0, none⟩)), .val (.slice (some ⟨g, 0, none⟩) is.length ci), .val (.slice (some ⟨bo, o, none⟩) n cap), .val (.int .i64 (k : Nat)), .val (.pointer (some ⟨bo, o + k * 13, none⟩)), .val (.pointer (some ⟨bo, o + k * 13 + 4, none⟩)), .val (.slice ca mc cc), .any, .val (.pointer (some ⟨mb, 0, none⟩)), .any] : List Cm).getD i .any).holds wo.heap.size) (fun vs u => Chg (fun i => mb ≤ i) wo u ∧ (match vs with | [] => ImB u mb (.slice (some ⟨g, 0, none⟩) is.length ci) g ci is 0 0 | [x] => ∃ g' cap', x = .slice (some ⟨g', 0, none⟩) (is.length + xc.length) cap' ∧ ImB u mb (.slice (some ⟨g, 0, none⟩) is.length ci) g' cap' (is ++ xc) 0 0 | _ => ∃ g' cap', ImB u mb (.slice (some ⟨g', 0, none⟩) (is.length + xc.length) cap') g' cap' (is ++ xc) 0 0)) (Chg (fun i => i < wo.heap.size)) (frame := ?frab) (fun x => ?hfab) mixed (by kernel_rfl) (by kernel_rfl) (fun i v u u' h hG => Cm.stab _ _ _ _ _ h hG) ?h0b ?stb ?finb
        case hfab =>
          simp only [chain.frameOf, chain.fill, chain.setOpt, chain.dstOf, List.size_toArray, List.length_cons, List.length_nil, List.getElem?_toArray, List.getElem?_cons_succ, List.getElem?_cons_zero, List.setIfInBounds_toArray, List.set_cons_succ, List.set_cons_zero]
          exact rfl
        case h0b => exact ⟨(Chg.refl _ _).drew, HMk.out.ext (Chg.refl _ _).drew⟩
        case stb =>
          refine AllFrom.cons (fun x vs u hF hm hb hd K' hK' => ?sb0) (AllFrom.cons (fun x vs u hF hm hb hd K' hK' => ?sb1) (AllFrom.cons (fun x vs u hF hm hb hd K' hK' => ?sb2) (AllFrom.cons (fun x vs u hF hm hb hd K' hK' => ?sb3) (AllFrom.cons (fun x vs u hF hm hb hd K' hK' => ?sb4) (AllFrom.cons (fun x vs u hF hm hb hd K' hK' => ?sb5) (AllFrom.cons (fun x vs u hF hm hb hd K' hK' => ?sb6) (AllFrom.cons (fun x vs u hF hm hb hd K' hK' => ?sb7) (AllFrom.cons (fun x vs u hF hm hb hd K' hK' => ?sb8) (AllFrom.cons (fun x vs u hF hm hb hd K' hK' => ?sb9) (AllFrom.nil))))))))))
          case sb0 =>
            have HF := Lib.hid hF
            clear hd hm hb hF
            go_simp
            exact hK'.out _ _ _ rfl (Chg.refl _ _) ⟨rfl, HF.out⟩
          case sb1 =>
            have y0 := hd 0 (by decide) (by kernel_rfl)
            replace y0 : x 69 = .pointer (some ⟨mb, 0, none⟩) := y0
            have hsv : vs = [] := List.eq_nil_of_length_eq_zero (by have := hb 0 _ (by decide) rfl (by kernel_rfl); omega)
            subst hsv
            have hSc := hF.2.sb.cell
            have HF := Lib.hid hF
            clear hd hm hb hF
            go_simp
            exact hK'.out _ _ _ (by simp only [y0]; rfl) (Chg.refl _ _) ⟨rfl, HF.out⟩
          case sb2 =>
            have HF := Lib.hid hF
            clear hd hm hb hF
            go_simp
            exact hK'.out _ _ _ rfl (Chg.refl _ _) ⟨rfl, HF.out⟩
          case sb3 =>
            have HF := Lib.hid hF
            clear hd hm hb hF
            go_simp
            exact hK'.out _ _ _ rfl (Chg.refl _ _) ⟨rfl, HF.out⟩
          case sb4 =>
            have y0 := hd 2 (by decide) (by kernel_rfl)
            replace y0 : x 71 = .slice (some ⟨bo, o, none⟩) n cap := y0
            have y1 := hd 3 (by decide) (by kernel_rfl)
            replace y1 : x 72 = .int .i64 (k : Nat) := y1
            have HF := Lib.hid hF
            clear hd hm hb hF
            go_simp
            exact hK'.out _ _ _ (by simp only [y0, y1]; rfl) (Chg.refl _ _) ⟨rfl, HF.out⟩
          case sb5 =>
            have y0 := hd 4 (by decide) (by kernel_rfl)
            replace y0 : x 73 = .pointer (some ⟨bo, o + k * 13, none⟩) := y0
            have HF := Lib.hid hF
            clear hd hm hb hF
            go_simp
            exact hK'.out _ _ _ (by simp only [y0]; rfl) (Chg.refl _ _) ⟨rfl, HF.out⟩
          case sb6 =>
            have y0 := hd 5 (by decide) (by kernel_rfl)
            replace y0 : x 74 = .pointer (some ⟨bo, o + k * 13 + 4, none⟩) := y0
            have hOc := HC4.out u (HWO.out.trans hF.1 (fun i hi e => by omega))
            have HF := Lib.hid hF
            clear hd hm hb hF
            go_simp
            exact hK'.out _ _ _ (by simp only [y0]; rfl) (Chg.refl _ _) ⟨rfl, HF.out⟩
          case sb7 =>
            obtain rfl := List.eq_nil_of_length_eq_zero (hm 0 (by kernel_rfl))
            have y0 := hd 1 (by decide) (by kernel_rfl)
            replace y0 : x 70 = .slice (some ⟨g, 0, none⟩) is.length ci := y0
            have y1 := hd 6 (by decide) (by kernel_rfl)
            replace y1 : x 75 = .slice ca mc cc := y1
            have hMB := hF.2
            have hsz := hF.1.size
            have hgN := hMB.base
            have hXu := HWO.out.trans hF.1 (fun i hi e => by omega)
            obtain ⟨i0_, hi_, hz0, hz1, hz2⟩ := info_parts getw.info_ins
            refine wp_append_src _ _ 23 rfl (mb + 1) 98 i0_ (.agg #[.int .i64 0, .int .i64 0, .int .i64 0, .int .i64 0, .int .i64 0]) 5 40 Tryz.underlying23 hi_ hz0 hz1 hz2 rfl (by decide) (.slice (some ⟨g, 0, none⟩) is.length ci) is.length (is.flatMap insCells) y0 hisp hMB.ins ca mc cc (xc.flatMap insCells) y1 (by rw [insCells_len, HMC.out]) (fun e => by rw [← HMC.out]; exact (ins_news (HCI.out u hXu)).1 e) (ins_news (HCI.out u hXu)).2 (ins_one xc) (by unfold maxLen; omega) (by omega) (by omega) ?_
            intro g' cap' w' ho hgr hat
            obtain ⟨hM2, hC2⟩ := hMB.app (news := xc) (by rw [HMC.out]; exact ho) hgr
            exact hK'.out _ _ _ rfl (hC2.weak fun i _ e => by omega) ⟨hF.1.then (hC2.weak fun i _ e => by omega), g', cap', by rw [← HMC.out], hM2⟩
          case sb8 =>
            have HF := Lib.hid hF
            clear hd hm hb hF
            go_simp
            exact hK'.out _ _ _ rfl (Chg.refl _ _) ⟨rfl, HF.out⟩
          case sb9 =>
            obtain ⟨x1, rfl⟩ : ∃ x1, vs = [x1] := by match vs, hm 1 (by kernel_rfl) with | [x1], _ => exact ⟨_, rfl⟩
            obtain ⟨g', cap', ex1, hM2⟩ := hF.2
            subst ex1
            have y0 := hd 8 (by decide) (by kernel_rfl)
            replace y0 : x 77 = .pointer (some ⟨mb, 0, none⟩) := y0
            have y1 := hd 7 (by decide) (by kernel_rfl) 76 (by kernel_rfl)
            replace y1 : x 76 = Value.slice (some ⟨g', 0, none⟩) (is.length + xc.length) cap' := y1
            have hSb := hM2.sb
            have hSc := hSb.cell
            have hSf := hSb.frozen
            have hSl := hSb.lt
            have hM3 := hM2.store (.slice (some ⟨g', 0, none⟩) (is.length + xc.length) cap')
            have hC3 := hF.1.setCell (p := ⟨mb, 0, none⟩) (fun _ => Nat.le_refl _) (.slice (some ⟨g', 0, none⟩) (is.length + xc.length) cap')
            clear hd hm hb
            go_simp
            exact hK'.out _ _ undef (by simp only [y0, y1]; rfl) ((Chg.refl _ _).setCell (fun _ => hBwo) _) ⟨hC3, g', cap', hM3⟩
        case finb =>
          intro x vs u hl hF hq
          clear hq
          obtain ⟨d1, d2, rfl⟩ : ∃ d1 d2, vs = [d1, d2] := by match vs, hl with | [_, _], _ => exact ⟨_, _, rfl⟩
          obtain ⟨hC4, g', cap', hM4⟩ := hF
          clear hl d1 d2
          have HC4b := Lib.hid (hC.then hC4)
          have HM4 := Lib.hid hM4
          obtain ⟨NL, hNL⟩ : ∃ q, is.length + xc.length = q := ⟨_, rfl⟩
          rw [hNL] at HM4
          have HNL := Lib.hid (show (is ++ xc).length = NL by rw [List.length_append]; exact hNL)
          have HFR := Lib.hid (show is.length + mc = NL by rw [← HMC.out]; exact hNL)
          clear hC hC4 hM4 HMk hNL
          go_wp2_with fail
          obtain ⟨FR, hFR⟩ : ∃ q, is.length = q := ⟨_, rfl⟩
          rw [hFR] at hle HFR HSTEP ⊢
          have HFRE := Lib.hid hFR
          clear hFR hisp
          have hle2 : NL ≤ 100000000 := by have := HFR.out; omega
          go_loopw [14] (fun j wr => ∃ (q : Nat) (is2 : List Ins), q ≤ mr ∧ j = .int .i64 q ∧ Chg (fun i => mb ≤ i) w6 wr ∧ Hid (is2.length = NL) ∧ Hid (ImB wr mb (.slice (some ⟨g', 0, none⟩) NL cap') g' cap' is2 0 0) ∧ Hid (movesF l CS LS HS (k + 1) (moveRels l CS LS HS k FR is2 (xr.drop q)) (l.drop (k + 1)) = RR)) (fun j _ => mr - (intOf j).toNat)
          case atStart => exact ⟨0, is ++ xc, Nat.zero_le _, rfl, HC4b.out, HNL, HM4, HSTEP⟩
          case round =>
            obtain ⟨q, is2, hq, rfl, hC5, HL2, HM5, hr⟩ := hrel
            clear HC4b HM4 HNL HSTEP
            have hXr := hX6.trans hC5 (fun i hi e => by omega)
            have hc5 := HC5.out wr hXr
            have hbo3 := Nat.lt_of_lt_of_le hbo hXr.size
            by_cases hlt2 : q < mr
            · have hqx : q < xr.length := by rw [HMR.out]; exact hlt2
              obtain ⟨bi, oi, rfl, hbi, hcr⟩ := HRI.out wr hXr q hqx
              obtain ⟨l0, l1, l2, l3⟩ := hcr
              have HX := Lib.hid (HRX.out _ (List.getElem_mem hqx))
              have HKK := Lib.hid (HKX.out _ (List.getElem_mem hqx))
              have HADY := Lib.hid (HADX.out _ (List.getElem_mem hqx))
              have HT := Lib.hid (show movesF l CS LS HS (k + 1) (moveRels l CS LS HS k FR (addAt is2 (FR + xr[q].at_.toNat) (relAdd l CS LS HS k xr[q])) (xr.drop (q + 1))) (l.drop (k + 1)) = RR by rw [← rels_step hqx]; exact hr.out)
              clear hr
              generalize xr[q] = y at *
              obtain ⟨ra_, rk, rm, rn⟩ := y
              simp only at l0 l1 l2 l3 HX HT HKK HADY
              have hb1 : bi < wr.heap.size := hbi
              obtain ⟨J, hJ⟩ : ∃ q : Nat, FR + ra_.toNat = q := ⟨_, rfl⟩
              have hx1 : 0 ≤ ra_ := HX.out.1
              have hx2 : ra_ < mc := by have h := HX.out.2; rw [HMC.out] at h; exact h
              have hJi : (FR : Int) + ra_ = (J : Int) := by omega
              have hJn : J < NL := by have := HFR.out; omega
              have hwJ : IntKind.i64.wrap ((FR : Int) + ra_) = (J : Int) := by rw [hJi]; exact IntWalk.i64_in _ (by omega)
              rw [hJ] at HT
              have HWJ := Lib.hid hwJ
              clear hJ hJi hwJ
              have KR := Blk.made wr #[.int .i64 ra_, .int .i64 rk, .string rm, .string rn] 100
              have HC6 := Lib.hid (hC5.alloc (.cells #[.int .i64 ra_, .int .i64 rk, .string rm, .string rn] 100))
              have HX6 := Lib.hid (hXr.alloc (.cells #[.int .i64 ra_, .int .i64 rk, .string rm, .string rn] 100))
              have HM6 := Lib.hid (HM5.out.ext ((Chg.refl _ _).alloc (.cells #[.int .i64 ra_, .int .i64 rk, .string rm, .string rn] 100)))
              by_cases hk1 : rk = 1
              · subst hk1
                have HAD := Lib.hid (show relAdd l CS LS HS k ⟨ra_, 1, rm, rn⟩ = (FR : Int) by rw [HOWN.out k hlt _ rfl, ← HLEN.out, HFRE.out])
                go_wp2_with fail
                clear l0 l1 l2 l3 hc5
                generalize wr.alloc (.cells #[.int .i64 ra_, .int .i64 1, .string rm, .string rn] 100) = w7 at *
                have HAD2 := HAD
                obtain ⟨kr, hkr⟩ : ∃ q, wr.heap.size = q := ⟨_, rfl⟩
                rw [hkr] at KR ⊢
                obtain ⟨-, -, -, -, hgc⟩ := InsRow.cells HM6.out.ins rfl (j := J) (by rw [HL2.out]; exact hJn)
                obtain ⟨x0, hx0⟩ : ∃ q, nAt is2 J = q := ⟨_, rfl⟩
                replace hgc : w7.cell? ⟨g', J * 5 + 4, none⟩ = some (.int .i64 x0) := by rw [← hx0]; exact hgc
                obtain ⟨x9, hx9⟩ : ∃ q, IntKind.i64.wrap (x0 + (FR:Int)) = q := ⟨_, rfl⟩
                have HAA := Lib.hid (show addAt is2 J (relAdd l CS LS HS k ⟨ra_, 1, rm, rn⟩) = setN is2 J x9 by rw [addAt, HAD2.out, hx0, hx9])
                have hwJ := HWJ.out
                have hSc := HM6.out.sb.cell
                have hRc := KR.cell
                have hgb9 := HM6.out.base
                have HX0 := Lib.hid hx0
                clear hx0
                go_still_tail 19, (by kernel_rfl)
                clear hgc hx9 hwJ hSc hRc
                have HM9 := Lib.hid (HM6.out.ext (Chg.refl _ _).drew)
                have HC9 := Lib.hid HC6.out.drew
                have hgf : ∀ o, w7.drew.frozen? ⟨g', o, none⟩ = false := HM9.out.frz
                have hgc2 : w7.drew.cell? ⟨g', J * 5 + 4, none⟩ = some (.int .i64 x0) := by obtain ⟨-, -, -, -, h⟩ := InsRow.cells HM9.out.ins rfl (j := J) (by rw [HL2.out]; exact hJn); rw [← HX0.out]; exact h
                change wpList _ _ _ _ _ w7.drew
                clear KR HM6 HC6
                generalize w7.drew = w9 at *
                go_wp2_with fail
                clear hgf hgc2
                have HM10 := Lib.hid (HM9.out.add (j := J) (by rw [HL2.out]; exact hJn) x9)
                have HC10 := HC9.out.setCell (p := ⟨g', J * 5 + 4, none⟩) (fun _ => (by show mb ≤ g'; omega)) (.int .i64 x9)
                have HL10 := Lib.hid (show (setN is2 J x9).length = NL by rw [setN_len]; exact HL2.out)
                rw [HAA.out] at HT
                clear HM9 HC9
                go_roundw
                case rel => exact ⟨q + 1, setN is2 J x9, by omega, by go_num, HC10, HL10, HM10, HT⟩
                case measure => simp [intOf]; omega
              · obtain ⟨AD, hAD⟩ : ∃ q, standsF l ⟨ra_, rk, rm, rn⟩ = q := ⟨_, rfl⟩
                have HAD2 := Lib.hid (show relAdd l CS LS HS k ⟨ra_, rk, rm, rn⟩ = AD by rw [HADY.out hk1 k, hAD])
                have HADE := Lib.hid hAD
                clear hAD
                go_wp2_with fail
                have hp := HSTD.out (wr.alloc (.cells #[.int .i64 ra_, .int .i64 rk, .string rm, .string rn] 100)) HX6.out ⟨ra_, rk, rm, rn⟩ HKK.out.1 HKK.out.2
                refine hp.mono ?_
                rintro e w7 ⟨rfl, hE7⟩
                rw [HADE.out]
                have KR8 := KR.ext hE7
                have HC8 := Lib.hid (HC6.out.ext hE7)
                have HM8 := Lib.hid (HM6.out.ext hE7)
                clear l0 l1 l2 l3 hc5 hp HM6 HC6 HX6 KR hE7
                go_wp2_with fail
                obtain ⟨kr, hkr⟩ : ∃ q, wr.heap.size = q := ⟨_, rfl⟩
                rw [hkr] at KR8 ⊢
                obtain ⟨-, -, -, -, hgc⟩ := InsRow.cells HM8.out.ins rfl (j := J) (by rw [HL2.out]; exact hJn)
                obtain ⟨x0, hx0⟩ : ∃ q, nAt is2 J = q := ⟨_, rfl⟩
                replace hgc : w7.cell? ⟨g', J * 5 + 4, none⟩ = some (.int .i64 x0) := by rw [← hx0]; exact hgc
                obtain ⟨x9, hx9⟩ : ∃ q, IntKind.i64.wrap (x0 + AD) = q := ⟨_, rfl⟩
                have HAA := Lib.hid (show addAt is2 J (relAdd l CS LS HS k ⟨ra_, rk, rm, rn⟩) = setN is2 J x9 by rw [addAt, HAD2.out, hx0, hx9])
                have hwJ := HWJ.out
                have hSc := HM8.out.sb.cell
                have hRc := KR8.cell
                have hgb9 := HM8.out.base
                have HX0 := Lib.hid hx0
                clear hx0
                go_still_tail 19, (by kernel_rfl)
                clear hgc hx9 hwJ hSc hRc
                have HM9 := Lib.hid (HM8.out.ext (Chg.refl _ _).drew)
                have HC9 := Lib.hid HC8.out.drew
                have hgf : ∀ o, w7.drew.frozen? ⟨g', o, none⟩ = false := HM9.out.frz
                have hgc2 : w7.drew.cell? ⟨g', J * 5 + 4, none⟩ = some (.int .i64 x0) := by obtain ⟨-, -, -, -, h⟩ := InsRow.cells HM9.out.ins rfl (j := J) (by rw [HL2.out]; exact hJn); rw [← HX0.out]; exact h
                change wpList _ _ _ _ _ w7.drew
                clear KR8 HM8 HC8
                generalize w7.drew = w9 at *
                go_wp2_with fail
                clear hgf hgc2
                have HM10 := Lib.hid (HM9.out.add (j := J) (by rw [HL2.out]; exact hJn) x9)
                have HC10 := HC9.out.setCell (p := ⟨g', J * 5 + 4, none⟩) (fun _ => (by show mb ≤ g'; omega)) (.int .i64 x9)
                have HL10 := Lib.hid (show (setN is2 J x9).length = NL by rw [setN_len]; exact HL2.out)
                rw [HAA.out] at HT
                clear HM9 HC9
                go_roundw
                case rel => exact ⟨q + 1, setN is2 J x9, by omega, by go_num, HC10, HL10, HM10, HT⟩
                case measure => simp [intOf]; omega
            · obtain rfl : q = mr := by omega
              have HT := Lib.hid (show movesF l CS LS HS (k + 1) is2 (l.drop (k + 1)) = RR by have := hr.out; rwa [List.drop_of_length_le (by rw [HMR.out]; exact Nat.le_refl _), moveRels] at this)
              have HLE := Lib.hid (show (is2.length : Int) = baseF codeLen 4 l (k + 1) by rw [HBS.out, HL2.out, ← HLEN.out, ← HFR.out, HFRE.out]; show ((FR + mc : Nat) : Int) = FR + ((xc.length : Nat) : Int); rw [HMC.out]; omega)
              have HM9 := Lib.hid (show ImB wr mb (.slice (some ⟨g', 0, none⟩) is2.length cap') g' cap' is2 0 0 by rw [HL2.out]; exact HM5.out)
              clear hr
              go_wp2_with fail
              go_roundw
              case rel => exact ⟨k + 1, g', cap', is2, by omega, by go_num, by rw [HM1.out], by rw [HM2.out], hC5, HLE, HM9, HT⟩
              case measure => simp [intOf]; omega
      · obtain rfl : n = k := by omega
        obtain rfl : is = RR := by have := hr.out; rwa [List.drop_of_length_le (by rw [HN.out]; exact Nat.le_refl _), movesF] at this
        clear hr
        have hXo := hX6.trans hC (fun i hi e => by omega)
        have hR7 := hR6.chg hC (by omega)
        have hE7 := hE6.chg hC (by omega)
        have hxc := HMk.out.sb.cell
        have hxf := HMk.out.sb.frozen
        have hxl := HMk.out.sb.lt
        have hRc := hR7.cell
        have hRf := hR7.frozen
        have hEc := hE7.cell
        have hEf := hE7.frozen
        have HML := Lib.hid (show linkLo l = LO + 31 * mostF FObj.lowF l n by unfold linkLo; rw [HN.out, HLO.out])
        have HMH := Lib.hid (show linkHi l = HI + 31 * mostF FObj.highF l n by unfold linkHi; rw [HN.out, HHI.out])
        generalize mostF FObj.lowF l n = ML at *
        generalize mostF FObj.highF l n = MH at *
        have KM7 : Blk ((wo.setCell ⟨mb, 1, none⟩ (.int .i64 (LO + 31 * ML))).setCell ⟨mb, 2, none⟩ (.int .i64 (HI + 31 * MH))) mb #[.slice (some ⟨g, 0, none⟩) is.length ci, .int .i64 (LO + 31 * ML), .int .i64 (HI + 31 * MH)] 25 := (HMk.out.sb.set 1 _).set 2 _
        have hC7 : Chg (fun i => i = mb) wo ((wo.setCell ⟨mb, 1, none⟩ (.int .i64 (LO + 31 * ML))).setCell ⟨mb, 2, none⟩ (.int .i64 (HI + 31 * MH))) := ((Chg.refl (fun i => i = mb) wo).setCell (fun _ => rfl) _).setCell (fun _ => rfl) _
        have hI7 : InsRow ((wo.setCell ⟨mb, 1, none⟩ (.int .i64 (LO + 31 * ML))).setCell ⟨mb, 2, none⟩ (.int .i64 (HI + 31 * MH))) (mb + 1) (.slice (some ⟨g, 0, none⟩) is.length ci) is := ownsRow_chg HMk.out.ins hC7 (fun i hi e => by omega)
        have hX8 := hXo.trans hC7 (fun i hi e => by omega)
        have hR8 := hR7.chg hC7 (by omega)
        have hE8 := hE7.chg hC7 (by omega)
        have HERR := Lib.hid (fun (mm : Nat) (c kk : Int) (h : movErr (LO + 31 * ML) (HI + 31 * MH) l is = some (mm, c, kk)) => show T = .bad mm c kk by rw [HEND.out]; unfold linkEnd; rw [HML.out, HMH.out, HRR.out, h])
        have HGOOD := Lib.hid (fun (h : movErr (LO + 31 * ML) (HI + 31 * MH) l is = none) => show T = .good is (LO + 31 * ML) (HI + 31 * MH) by rw [HEND.out]; unfold linkEnd; rw [HML.out, HMH.out, HRR.out, h])
        have HMN := Lib.hid (movErr_no (lo := LO + 31 * ML) (hi := HI + 31 * MH) (l := l) (is := is))
        have HMY := Lib.hid (movErr_yes (lo := LO + 31 * ML) (hi := HI + 31 * MH) (l := l) (is := is))
        obtain ⟨NI, hNI⟩ : ∃ q, is.length = q := ⟨_, rfl⟩
        have HNI := Lib.hid hNI
        rw [hNI] at hle hxc KM7 HMN HMY
        have HKM7 := Lib.hid KM7
        have HI7 := Lib.hid hI7
        have HX8 := Lib.hid hX8
        have HR8 := Lib.hid hR8
        have HE8 := Lib.hid hE8
        clear hNI hC hC7 hI7 KM7 hX8 hR8 hE8 hR7 hE7
        by_cases t1 : (NI : Int) ≤ 20000
        · by_cases t2 : LO + 31 * ML ≤ 20000
          · by_cases t3 : HI + 31 * MH ≤ 20000
            · have HE := Lib.hid (HMY.out ⟨by omega, t2, t3⟩)
              clear HMN HMY hRc hRf hEc hEf
              go_wp2_with fail
              clear hxc hxf
              have HKM := HKM7
              have HIS := HI7
              have HXZ := HX8
              have HRZ := HR8
              have HEZ := HE8
              clear HKM7 HI7 HX8 HR8 HE8
              generalize (wo.setCell ⟨mb, 1, none⟩ (.int .i64 (LO + 31 * ML))).setCell ⟨mb, 2, none⟩ (.int .i64 (HI + 31 * MH)) = wz at *
              generalize LO + 31 * ML = LO2 at *
              generalize HI + 31 * MH = HI2 at *
              obtain ⟨OE, hEE⟩ : ∃ E, ordF is 0 4 l = E := ⟨_, rfl⟩
              have HEE := Lib.hid (show movErr LO2 HI2 l is = OE by rw [HE.out, hEE])
              have HE0 := Lib.hid (show ordF is 0 4 (l.drop 0) = OE by simpa using hEE)
              have HB0 := Lib.hid (show ((4 : Nat) : Int) = baseF codeLen 4 l 0 from rfl)
              clear hEE HE
              go_loopw [17] (fun i wr => ∃ (j base : Nat), j ≤ n ∧ i = .int .i64 j ∧ Ext wz wr ∧ Hid ((base : Int) = baseF codeLen 4 l j) ∧ Hid (ordF is j base (l.drop j) = OE)) (fun i _ => n - (intOf i).toNat)
              case atStart => exact ⟨0, 4, Nat.zero_le _, rfl, Chg.refl _ _, HB0, HE0⟩
              case round =>
                obtain ⟨j, base, hj, rfl, hE1, HBA, hr⟩ := hrel
                clear HB0 HE0
                by_cases hlt : j < n
                · have hjl : j < l.length := by rw [HN.out]; exact hlt
                  have hXw := HXZ.out.ext hE1
                  obtain ⟨bo, o, rfl, hbo, hc⟩ := HOBJ.out w (Chg.refl _ _) j hjl
                  obtain ⟨fa, am, fc, cm, ia, ic, ca, cc, ra, rc, pa, pc, la, lc, ha, hcp, -, -, -, -, h4, -⟩ := hc
                  have HR1 := Lib.hid (ord_step hjl hr.out)
                  have HBS := Lib.hid (baseF_step codeLen 4 hjl)
                  have HMO := Lib.hid (baseF_mono codeLen 4 (l := l) (fun x _ => by unfold codeLen; omega) (j := j + 1) (n - (j + 1)) (by rw [HN.out]; omega))
                  clear hr
                  generalize l[j] = x at *
                  obtain ⟨xf, xi, xc, xr, op, ol, oh, lo, hi', lf, hf⟩ := x
                  obtain ⟨xn, xv, xp⟩ := xf
                  simp only at HR1 HBS h4
                  obtain ⟨mc, hmc⟩ : ∃ m, xc.length = m := ⟨_, rfl⟩
                  rw [hmc] at h4 HR1
                  have hbm : base + mc ≤ NI := by
                    have e1 := HMO.out
                    rw [show j + 1 + (n - (j + 1)) = n by omega, HBS.out, ← HBA.out, ← HLEN.out, HNI.out] at e1
                    have e2 : codeLen ⟨⟨xn, xv, xp⟩, xi, xc, xr, op, ol, oh, lo, hi', lf, hf⟩ = (mc : Int) := by rw [← hmc]; rfl
                    rw [e2] at e1
                    omega
                  have HB1 := Lib.hid (show ((base + mc : Nat) : Int) = baseF codeLen 4 l (j + 1) by
                    rw [HBS.out, ← HBA.out]
                    have e2 : codeLen ⟨⟨xn, xv, xp⟩, xi, xc, xr, op, ol, oh, lo, hi', lf, hf⟩ = (mc : Int) := by rw [← hmc]; rfl
                    rw [e2]; omega)
                  have HC4 := Lib.hid (fun (u : World) (h : Ext w u) => (h.cell (p := ⟨bo, o + j * 13 + 4, none⟩) hbo id).trans h4)
                  clear hmc HMO h4
                  go_wp2_with fail
                  refine (HBASE.out wr j 1 (by omega) (by decide) (by decide) hXw).mono ?_
                  rintro e w9 ⟨rfl, rfl⟩
                  rw [show rBase l j 1 = (base : Int) by rw [HBA.out]; rfl]
                  go_wp2_with fail
                  go_loopw [19] (fun i wr => ∃ (q : Nat), q ≤ mc ∧ i = .int .i64 q ∧ Ext wz wr ∧ Hid ((ordF1 is j base q (mc - q)).or (ordF is (j + 1) (base + mc) (l.drop (j + 1))) = OE)) (fun i _ => mc - (intOf i).toNat)
                  case atStart => exact ⟨0, Nat.zero_le _, rfl, hE1, by rw [Nat.sub_zero]; exact HR1⟩
                  case round =>
                    obtain ⟨q, hq, rfl, hE7, hr⟩ := hrel
                    have hXr := HXZ.out.ext hE7
                    have hc4 := HC4.out wr hXr
                    have hbo3 := Nat.lt_of_lt_of_le hbo hXr.size
                    by_cases hlt2 : q < mc
                    · have HS4 := Lib.hid (ord1_step hlt2 hr.out)
                      have HSB := Lib.hid (HKM.out.ext hE7)
                      have hIr : InsRow wr (mb + 1) _ is := ownsRow_ext HIS.out hE7
                      have hgl := (World.ownsRow.lt hIr g rfl).2
                      have hSl := HSB.out.lt
                      obtain ⟨J, hJ⟩ : ∃ J, base + q = J := ⟨_, rfl⟩
                      have hJn : J < NI := by omega
                      rw [hJ] at HS4
                      have HWJ := Lib.hid (show IntKind.i64.wrap ((base : Int) + (q : Int)) = (J : Int) by rw [← hJ]; exact IntWalk.i64_in _ (by omega))
                      have HIN := Lib.hid (InsRow.cells hIr rfl (j := J) (by rw [HNI.out]; exact hJn))
                      have HE7 := Lib.hid hE7
                      have HXR := Lib.hid hXr
                      rw [HNI.out] at HS4
                      clear hr hIr hJ hE7 hXr
                      generalize (is[J]?).getD default = I0 at *
                      obtain ⟨i0, i1, i2, i3, i4⟩ := I0
                      obtain ⟨M, hM⟩ : ∃ M, orderB ⟨i0, i1, i2, i3, i4⟩ (NI : Nat) = M := ⟨_, rfl⟩
                      rw [hM] at HS4
                      have HMD := Lib.hid hM
                      clear hM
                      go_wp2_with fail
                      clear hc4
                      refine wp_region_chain [10, 11] [.pointer (some ⟨mb, 0, none⟩), .slice (some ⟨g, 0, none⟩) NI ci, .int .i64 (base : Nat), .int .i64 (q : Nat), .int .i64 (J : Nat), .pointer (some ⟨g, J * 5, none⟩), .agg #[.int .i64 i0, .int .i64 i1, .int .i64 i2, .int .i64 i3, .int .i64 i4], .pointer (some ⟨mb, 0, none⟩), .slice (some ⟨g, 0, none⟩) NI ci, .int .i64 (NI : Nat), undef, undef] (fun vs u => Ext wr u ∧ (match vs with | [] => True | [v0] => v0 = .bool M | [v0, v1] => v0 = .bool M ∧ v1 = .bool (!M) | _ => False)) (frame := ?frac) (fun x => ?hfac) mixed (by kernel_rfl) ?h0c ?stc ?finc
                      case hfac =>
                        simp only [chain.frameOf, chain.fill, chain.setOpt, chain.dstOf, List.size_toArray, List.length_cons, List.length_nil, List.getElem?_toArray, List.getElem?_cons_succ, List.getElem?_cons_zero, List.setIfInBounds_toArray, List.set_cons_succ, List.set_cons_zero]
                        exact rfl
                      case h0c => exact ⟨(Chg.refl _ _).drew, trivial⟩
                      case stc =>
                        refine AllFrom.cons (fun x vs u hF hm hd K' hK' => ?sc0) (AllFrom.cons (fun x vs u hF hm hd K' hK' => ?sc1) (AllFrom.cons (fun x vs u hF hm hd K' hK' => ?sc2) (AllFrom.cons (fun x vs u hF hm hd K' hK' => ?sc3) (AllFrom.cons (fun x vs u hF hm hd K' hK' => ?sc4) (AllFrom.cons (fun x vs u hF hm hd K' hK' => ?sc5) (AllFrom.cons (fun x vs u hF hm hd K' hK' => ?sc6) (AllFrom.cons (fun x vs u hF hm hd K' hK' => ?sc7) (AllFrom.cons (fun x vs u hF hm hd K' hK' => ?sc8) (AllFrom.cons (fun x vs u hF hm hd K' hK' => ?sc9) (AllFrom.cons (fun x vs u hF hm hd K' hK' => ?sc10) (AllFrom.cons (fun x vs u hF hm hd K' hK' => ?sc11) (AllFrom.nil))))))))))))
                        case sc0 =>
                          clear hd hm hF
                          go_simp
                          exact hK'.out _ _ _ rfl ⟨rfl, rfl⟩
                        case sc1 =>
                          have y0 := hd 0 166 (by decide) (by kernel_rfl) (by kernel_rfl)
                          replace y0 : x 166 = .pointer (some ⟨mb, 0, none⟩) := y0
                          have hSc := (HSB.out.ext hF.1).cell
                          clear hd hm hF
                          go_simp
                          exact hK'.out _ _ _ (by simp only [y0]; rfl) ⟨rfl, rfl⟩
                        case sc2 =>
                          clear hd hm hF
                          go_simp
                          exact hK'.out _ _ _ rfl ⟨rfl, rfl⟩
                        case sc3 =>
                          clear hd hm hF
                          go_simp
                          exact hK'.out _ _ _ rfl ⟨rfl, rfl⟩
                        case sc4 =>
                          have y0 := hd 2 168 (by decide) (by kernel_rfl) (by kernel_rfl)
                          replace y0 : x 168 = .int .i64 (base : Nat) := y0
                          have y1 := hd 3 169 (by decide) (by kernel_rfl) (by kernel_rfl)
                          replace y1 : x 169 = .int .i64 (q : Nat) := y1
                          have hwJ := HWJ.out
                          clear hd hm hF
                          go_simp
                          exact hK'.out _ _ _ (by simp only [y0, y1]; rfl) ⟨rfl, rfl⟩
                        case sc5 =>
                          have y0 := hd 1 167 (by decide) (by kernel_rfl) (by kernel_rfl)
                          replace y0 : x 167 = .slice (some ⟨g, 0, none⟩) NI ci := y0
                          have y1 := hd 4 170 (by decide) (by kernel_rfl) (by kernel_rfl)
                          replace y1 : x 170 = .int .i64 (J : Nat) := y1
                          clear hd hm hF
                          go_simp
                          exact hK'.out _ _ _ (by simp only [y0, y1]; rfl) ⟨rfl, rfl⟩
                        case sc6 =>
                          have y0 := hd 5 171 (by decide) (by kernel_rfl) (by kernel_rfl)
                          replace y0 : x 171 = .pointer (some ⟨g, J * 5, none⟩) := y0
                          obtain ⟨p0, p1, p2, p3, p4⟩ := InsIn5.ext hF.1 hgl HIN.out
                          simp only at p0 p1 p2 p3 p4
                          clear hd hm hF
                          go_simp
                          exact hK'.out _ _ _ (by simp only [y0]; rfl) ⟨rfl, rfl⟩
                        case sc7 =>
                          clear hd hm hF
                          go_simp
                          exact hK'.out _ _ _ rfl ⟨rfl, rfl⟩
                        case sc8 =>
                          have y0 := hd 7 173 (by decide) (by kernel_rfl) (by kernel_rfl)
                          replace y0 : x 173 = .pointer (some ⟨mb, 0, none⟩) := y0
                          have hSc := (HSB.out.ext hF.1).cell
                          clear hd hm hF
                          go_simp
                          exact hK'.out _ _ _ (by simp only [y0]; rfl) ⟨rfl, rfl⟩
                        case sc9 =>
                          have y0 := hd 8 174 (by decide) (by kernel_rfl) (by kernel_rfl)
                          replace y0 : x 174 = .slice (some ⟨g, 0, none⟩) NI ci := y0
                          clear hd hm hF
                          go_simp
                          exact hK'.out _ _ _ (by simp only [y0]; rfl) ⟨rfl, rfl⟩
                        case sc10 =>
                          have y0 := hd 6 172 (by decide) (by kernel_rfl) (by kernel_rfl)
                          replace y0 : x 172 = .agg #[.int .i64 i0, .int .i64 i1, .int .i64 i2, .int .i64 i3, .int .i64 i4] := y0
                          have y1 := hd 9 175 (by decide) (by kernel_rfl) (by kernel_rfl)
                          replace y1 : x 175 = .int .i64 (NI : Nat) := y1
                          obtain rfl := List.eq_nil_of_length_eq_zero (hm 0 (by kernel_rfl))
                          obtain ⟨hE, -⟩ := hF
                          clear hd hm
                          go_simp
                          try simp only [y0, y1]
                          refine (mof.rorder_any ⟨i0, i1, i2, i3, i4⟩ (NI : Nat) _).mono ?_
                          rintro e u2 ⟨rfl, hB2⟩
                          have hE2 := Below.toExt hB2
                          rw [HMD.out]
                          exact hK'.out _ _ _ (by first | rfl | (simp only [y0, y1]; rfl)) ⟨hE.ext hE2, rfl⟩
                        case sc11 =>
                          obtain ⟨v0, rfl⟩ : ∃ v0, vs = [v0] := by match vs, hm 1 (by kernel_rfl) with | [v0], _ => exact ⟨_, rfl⟩
                          obtain ⟨hE, rfl⟩ := hF
                          have y0 := hd 10 176 (by decide) (by kernel_rfl) (by kernel_rfl)
                          replace y0 : x 176 = .bool M := y0
                          clear hd hm
                          go_simp
                          exact hK'.out _ _ (.bool (!M)) (by first | rfl | (simp only [y0]; rfl)) ⟨hE, rfl, rfl⟩
                      case finc =>
                        intro x vs u hl hF hs
                        obtain ⟨v0, v1, rfl⟩ : ∃ v0 v1, vs = [v0, v1] := by match vs, hl with | [v0, v1], _ => exact ⟨_, _, rfl⟩
                        obtain ⟨hE, rfl, rfl⟩ := hF
                        have y92 := hs 11 177 (by decide) (by kernel_rfl)
                        replace y92 : x 177 = .bool (!M) := y92
                        clear hs hl
                        have hE9 := HE7.out.ext hE
                        cases M
                        · have HX := Lib.hid (HERR.out _ _ _ (HEE.out.trans (HS4.out.1 rfl)))
                          replace y92 : x 177 = .bool true := y92
                          have hX9 := HXZ.out.ext hE9
                          have hR9 := HRZ.out.ext hE9
                          have hE10 := HEZ.out.ext hE9
                          have hRc := hR9.cell
                          have hRf := hR9.frozen
                          have hRl9 := hR9.lt
                          have hEc := hE10.cell
                          have hEf := hE10.frozen
                          have hEl9 := hE10.lt
                          clear hE
                          go_wp2_with fail
                          obtain ⟨hRz, hEz, hXz⟩ := res_two hX9 hR9 hE10 (by omega) (by omega) (by omega) (.slice none 0 0) (.int .i64 0) (.int .i64 0) (.int .i64 j) (.int .i64 6) (.int .i64 q)
                          refine bodyPost_ret (v := .tuple #[_, _]) (results_aa (p := 2) (q := 3) rfl _ _ rfl hRz Tryz.underlying25 rfl (by kernel_rfl) rfl hEz Tryz.underlying28 rfl (by kernel_rfl)) rfl ?_
                          exact linkp_bad hXz HX.out
                        · have HX := Lib.hid (HS4.out.2 rfl)
                          replace y92 : x 177 = .bool false := y92
                          clear hE
                          go_wp2_with fail
                          go_roundw
                          case rel => exact ⟨q + 1, by omega, by go_num, hE9, HX.out⟩
                          case measure => simp [intOf]; omega
                    · obtain rfl : q = mc := by omega
                      have HT := Lib.hid (show ordF is (j + 1) (base + q) (l.drop (j + 1)) = OE by have := hr.out; rwa [Nat.sub_self, ordF1, Option.none_or] at this)
                      clear hr
                      go_wp2_with fail
                      go_roundw
                      case rel => exact ⟨j + 1, base + q, by omega, by go_num, hE7, HB1, HT⟩
                      case measure => simp [intOf]; omega
                · obtain rfl : j = n := by omega
                  obtain rfl : OE = none := by have := hr.out; rw [List.drop_of_length_le (by rw [HN.out]; exact Nat.le_refl _)] at this; exact this.symm
                  have HX := Lib.hid (HGOOD.out HEE.out)
                  have hX9 := HXZ.out.ext hE1
                  have hR9 := HRZ.out.ext hE1
                  have hE9 := HEZ.out.ext hE1
                  have KM9 := HKM.out.ext hE1
                  have hI9 : InsRow wr (mb + 1) _ is := ownsRow_ext HIS.out hE1
                  have hMc := KM9.cell
                  have hRc := hR9.cell
                  have hRf := hR9.frozen
                  have hRl9 := hR9.lt
                  have hEc := hE9.cell
                  have hEf := hE9.frozen
                  have hEl9 := hE9.lt
                  have hMl9 := KM9.lt
                  clear hr
                  go_wp2_with fail
                  obtain ⟨hRz, hEz, hXz⟩ := res_two hX9 hR9 hE9 (by omega) (by omega) (by omega) (.slice (some ⟨g, 0, none⟩) NI ci) (.int .i64 LO2) (.int .i64 HI2) (.int .i64 0) (.int .i64 0) (.int .i64 0)
                  have hI10 := res_ins hI9 (R := R) (E := E) (by omega) (by omega) (.slice (some ⟨g, 0, none⟩) NI ci) (.int .i64 LO2) (.int .i64 HI2) (.int .i64 0) (.int .i64 0) (.int .i64 0)
                  refine bodyPost_ret (v := .tuple #[_, _]) (results_aa (p := 2) (q := 3) rfl _ _ rfl hRz Tryz.underlying25 rfl (by kernel_rfl) rfl hEz Tryz.underlying28 rfl (by kernel_rfl)) rfl ?_
                  have hpost := linkp_good (ci := ci) hXz HX.out (insRow_all hI10)
                  rw [HNI.out] at hpost
                  exact hpost
            · have HX := Lib.hid (HERR.out _ _ _ (HMN.out (by omega)))
              go_wp2_with fail
              obtain ⟨hRz, hEz, hXz⟩ := res_two HX8.out HR8.out HE8.out (by omega) (by omega) (by omega) (.slice none 0 0) (.int .i64 0) (.int .i64 0) (.int .i64 0) (.int .i64 1) (.int .i64 0)
              refine bodyPost_ret (v := .tuple #[_, _]) (results_aa (p := 2) (q := 3) rfl _ _ rfl hRz Tryz.underlying25 rfl (by kernel_rfl) rfl hEz Tryz.underlying28 rfl (by kernel_rfl)) rfl ?_
              exact linkp_bad hXz HX.out
          · have HX := Lib.hid (HERR.out _ _ _ (HMN.out (by omega)))
            go_wp2_with fail
            obtain ⟨hRz, hEz, hXz⟩ := res_two HX8.out HR8.out HE8.out (by omega) (by omega) (by omega) (.slice none 0 0) (.int .i64 0) (.int .i64 0) (.int .i64 0) (.int .i64 1) (.int .i64 0)
            refine bodyPost_ret (v := .tuple #[_, _]) (results_aa (p := 2) (q := 3) rfl _ _ rfl hRz Tryz.underlying25 rfl (by kernel_rfl) rfl hEz Tryz.underlying28 rfl (by kernel_rfl)) rfl ?_
            exact linkp_bad hXz HX.out
        · have HX := Lib.hid (HERR.out _ _ _ (HMN.out (by omega)))
          go_wp2_with fail
          obtain ⟨hRz, hEz, hXz⟩ := res_two HX8.out HR8.out HE8.out (by omega) (by omega) (by omega) (.slice none 0 0) (.int .i64 0) (.int .i64 0) (.int .i64 0) (.int .i64 1) (.int .i64 0)
          refine bodyPost_ret (v := .tuple #[_, _]) (results_aa (p := 2) (q := 3) rfl _ _ rfl hRz Tryz.underlying25 rfl (by kernel_rfl) rfl hEz Tryz.underlying28 rfl (by kernel_rfl)) rfl ?_
          exact linkp_bad hXz HX.out
end rlink
end Go.Proofs.YtpcihajmcejliabGreatDoor

