/- The walk of the program's declare: a declaration is taken in, or what is wrong is thrown. -/
import Derived.Test.YtpcihajmcejliacGreatDoorOfS
namespace Go.Proofs.YtpcihajmcejliacGreatDoor
open Go.RowKit
def nameF (L : List (ByteArray × Int)) (x : Nd) (p : Nat) : Int × Nat := if (keysF L).contains x.key = true then (5, p) else if 20 ≤ L.length then (1, p) else declF x p
namespace ofdec
open synw ofp ofmap
def TurnS (D Mn : Nat) (rv rp : Value) : Nat → Prop := fun i => i = D ∨ i = Mn ∨ rv.ownBlock = some i ∨ rp.ownBlock = some i
def DeclPost (w0 w : World) (D Mn Ma B : Nat) (m : ByteArray) (n0 n1 n2 n3 ri rvo rpo : Value) (vs : List FVar) (ps : List FProc) (is : List ByteArray) (L A : List (ByteArray × Int)) (x : Nd) (p : Nat) (FX : Int × Nat) (e : Ending) (u : World) : Prop :=
 (FX.1 = 0 → e = .returned (.tuple #[]) ∧ ∃ rv rp, DS w0 u D Mn Ma B m n0 n1 n2 n3 rv rp ri rv rp ri (if isVar x = true then vs ++ [varOf x] else vs) (if isVar x = true then ps else ps ++ [procOf x]) is (L ++ [(x.tx, (p : Int))]) A ∧ Chg (TurnS D Mn rvo rpo) w u) ∧
 (FX.1 ≠ 0 → e = .panicked (firstV FX.1 (FX.2 : Nat)) ∧ Ext w0 u)
structure PL (w5 u : World) (Pb Ob B2 : Nat) (t : ByteArray) (b1 : Bool) (m2 : Int) (b4 : Bool) (m8 : Int) (rowN row : Value) (acc : List Int) (own : List (ByteArray × Int)) : Prop where
 ext : Ext w5 u
 pv : Blk u Pb #[.string t, .bool b1, rowN, .int .i64 m2, .bool b4, .int .i64 m8] 68
 om : WMap u Ob own
 grow : Grow 1 3 OInt B2 u row acc
 h5 : w5.heap.size ≤ Pb
 hPO : Pb < Ob
 hOB : Ob < B2
 hu : B2 ≤ u.heap.size
theorem PL.extend {w5 u u' : World} {Pb Ob B2 : Nat} {t : ByteArray} {b1 : Bool} {m2 : Int} {b4 : Bool} {m8 : Int} {rowN row : Value} {acc : List Int} {own : List (ByteArray × Int)} (h : PL w5 u Pb Ob B2 t b1 m2 b4 m8 rowN row acc own) (hE : Ext u u') : PL w5 u' Pb Ob B2 t b1 m2 b4 m8 rowN row acc own :=
 ⟨h.ext.ext hE, h.pv.ext hE, h.om.chg hE id, h.grow.chg int_keeps hE (fun _ e => e.elim), h.h5, h.hPO, h.hOB, Nat.le_trans h.hu hE.size⟩
theorem PL.name {w5 u u' : World} {Pb Ob B2 : Nat} {t : ByteArray} {b1 : Bool} {m2 : Int} {b4 : Bool} {m8 : Int} {rowN row : Value} {acc : List Int} {own own2 : List (ByteArray × Int)} (h : PL w5 u Pb Ob B2 t b1 m2 b4 m8 rowN row acc own) (hg : u.grownBy u' (some Ob)) (hm : WMap u' Ob own2) : PL w5 u' Pb Ob B2 t b1 m2 b4 m8 rowN row acc own2 := by
 have hC := grown_at hg; have h1 := h.h5; have h2 := h.hPO; have h3 := h.hOB
 exact ⟨h.ext.trans hC (fun i hi e => by omega), h.pv.chg hC (by omega), hm, h.grow.chg int_keeps hC (fun i e => by omega), h1, h2, h3, Nat.le_trans h.hu hC.size⟩
theorem PL.more {w5 u u' : World} {Pb Ob B2 : Nat} {t : ByteArray} {b1 : Bool} {m2 : Int} {b4 : Bool} {m8 : Int} {rowN row r : Value} {acc acc2 : List Int} {own : List (ByteArray × Int)} (h : PL w5 u Pb Ob B2 t b1 m2 b4 m8 rowN row acc own) (hG : Grow 1 3 OInt B2 u' r acc2) (hC : Chg (fun i => row.ownBlock = some i) u u') : PL w5 u' Pb Ob B2 t b1 m2 b4 m8 rowN r acc2 own := by
 have h1 := h.h5; have h2 := h.hPO; have h3 := h.hOB
 have ho := grow_own h.grow; exact ⟨h.ext.trans hC (fun i hi e => by have := ho i e; omega), h.pv.chg hC (fun e => by have := ho _ e; omega), h.om.chg hC (fun e => by have := ho _ e; omega), hG, h1, h2, h3, Nat.le_trans h.hu hC.size⟩
theorem PL.put {w5 u : World} {Pb Ob B2 : Nat} {t : ByteArray} {b1 : Bool} {m2 : Int} {b4 : Bool} {m8 : Int} {rowN row : Value} {acc : List Int} {own : List (ByteArray × Int)} (h : PL w5 u Pb Ob B2 t b1 m2 b4 m8 rowN row acc own) : PL w5 (u.setCell ⟨Pb, 2, none⟩ row) Pb Ob B2 t b1 m2 b4 m8 row row acc own := by
 have h1 := h.h5; have h2 := h.hPO; have h3 := h.hOB
 have hC := chg_set (S := Pb) (Chg.refl _ u) 2 row; exact ⟨h.ext.trans hC (fun i hi e => by omega), by have := h.pv.set 2 row; exact this, h.om.chg hC (by omega), h.grow.chg int_keeps hC (fun i e => by omega), h1, h2, h3, Nat.le_trans h.hu hC.size⟩
theorem dies {w0 w u : World} {D Mn Ma B : Nat} {m : ByteArray} {n0 n1 n2 n3 ri rvo rpo : Value} {vs : List FVar} {ps : List FProc} {is : List ByteArray} {L A : List (ByteArray × Int)} {x : Nd} {p q : Nat} {c : Int} {FX : Int × Nat} (hF : FX = (c, q)) (hc : c ≠ 0) (hE : Ext w0 u) : DeclPost w0 w D Mn Ma B m n0 n1 n2 n3 ri rvo rpo vs ps is L A x p FX (.panicked (firstV c (q : Nat))) u := by
 subst hF; exact ⟨fun h => absurd h hc, fun _ => ⟨rfl, hE⟩⟩
theorem take_nm {ps0 : List Nd} {PR : List Int} (h : ps0.map Nd.nm = PR) {j : Nat} (hj : j < ps0.length) : PR.take (j + 1) = PR.take j ++ [(ps0[j]).nm] := by
 subst h; rw [List.take_succ_eq_append_getElem (by simpa using hj)]; simp
theorem bits_two {m : Int} (h0 : 0 ≤ m) (h1 : m ≤ 11) : bits .and .i64 m 2 = if 2 ≤ m % 4 then 2 else 0 := by
 have : m = 0 ∨ m = 1 ∨ m = 2 ∨ m = 3 ∨ m = 4 ∨ m = 5 ∨ m = 6 ∨ m = 7 ∨ m = 8 ∨ m = 9 ∨ m = 10 ∨ m = 11 := by omega
 rcases this with rfl | rfl | rfl | rfl | rfl | rfl | rfl | rfl | rfl | rfl | rfl | rfl <;> decide
theorem bits_one {m : Int} (h0 : 0 ≤ m) (h1 : m ≤ 11) : bits .and .i64 m 1 = m % 2 := by
 have : m = 0 ∨ m = 1 ∨ m = 2 ∨ m = 3 ∨ m = 4 ∨ m = 5 ∨ m = 6 ∨ m = 7 ∨ m = 8 ∨ m = 9 ∨ m = 10 ∨ m = 11 := by omega
 rcases this with rfl | rfl | rfl | rfl | rfl | rfl | rfl | rfl | rfl | rfl | rfl | rfl <;> decide
set_option maxRecDepth 100000 in
set_option maxHeartbeats 8000000 in
theorem declare_any {w0 w : World} {D Mn Ma B : Nat} {m : ByteArray} {n0 n1 n2 n3 rv rp ri : Value} {vs : List FVar} {ps : List FProc} {is : List ByteArray} {L A : List (ByteArray × Int)} {x : Nd} {v : Value} {H : Nat → Bool} (p : Nat)
  (h : DS w0 w D Mn Ma B m n0 n1 n2 n3 rv rp ri rv rp ri vs ps is L A) (hx : NdAt (hide H w0) x v) (hok : VarOk x ∨ ProcOk x) (hkl : x.kids.length ≤ 1000) (hp : p ≤ 1000) (hL : L.length ≤ 20) (hvs : vs.length ≤ 1000) (hps : ps.length ≤ 1000) :
  Calls Tryz.prog 113 #[.pointer (some ⟨D, 0, none⟩), v, .int .i64 (p : Nat), .map (some Mn)] w (DeclPost w0 w D Mn Ma B m n0 n1 n2 n3 ri rv rp vs ps is L A x p (nameF L x p)) := by
 obtain ⟨k, t, mm, l⟩ := x; rw [ndAt_mk] at hx; obtain ⟨a, cc, rfl, hx1, hx2, hx3, hx4⟩ := hx; have hmm : 0 ≤ mm ∧ mm ≤ 11 := by rcases hok with h | h; exact ⟨h.nm.1, by have h2 : mm ≤ 3 := h.nm.2; omega⟩; exact h.nm
 have hkl2 : l.length ≤ 1000 := hkl; obtain ⟨N, hN⟩ : ∃ N, l.length = N := ⟨_, rfl⟩; rw [hN] at hx1 hkl2 ⊢; have HN := Z_ hN; have HI := Z_ (fun (u : World) (hE : Ext w0 u) => hx4.keeps (keeps_chg hE fun i _ e => e.elim) fun b o y => ndIn_keeps (keeps_chg hE fun i _ e => e.elim) b o y); have HB2 := Z_ (bits_two hmm.1 hmm.2); have HB1 := Z_ (bits_one hmm.1 hmm.2); have HOK := Z_ hok; have hX := (Chg.refl (fun _ => False) w).alloc (.cells #[.int .i64 k, .string t, .int .i64 mm, .slice a N cc] 24); have HD := Z_ (h.extend hX); have HC := Z_ (hX.weak (S' := TurnS D Mn rv rp) fun _ _ e => e.elim); have HK := Z_ (Blk.made w #[.int .i64 k, .string t, .int .i64 mm, .slice a N cc] 24); obtain ⟨K, hK⟩ : ∃ K, w.heap.size = K := ⟨_, rfl⟩; have hBK : B ≤ K := by have := h.hu; omega
 rw [hK] at HK; obtain ⟨FX, hFX⟩ : ∃ q, nameF L (.mk k t mm l) p = q := ⟨_, rfl⟩; rw [hFX]; have HF := Z_ hFX; obtain ⟨x, hxe⟩ : ∃ x : Nd, Nd.mk k t mm l = x := ⟨_, rfl⟩; have HXE := Z_ hxe; rw [hxe]; have HKE := Z_ (ass_keys L t); clear hx4 hN hok hX h hFX hxe hkl; obtain ⟨is_, his⟩ : ∃ b, (assF L t).isSome = b := ⟨_, rfl⟩; have HIS := Z_ his; go_enter Tryz.func113, Tryz.ntmps113
 go_upto_region 1 with (fail)
 generalize w.alloc (.cells #[.int .i64 k, .string t, .int .i64 mm, .slice a N cc] 24) = w1 at *; have hc := HK.out.cell; have hlook := HD.out.nm.look (s := t) (by unfold maxLen; omega); rw [his] at hlook; generalize (assF L t).getD 0 = c0 at *; cases is_ with
 | true =>
  have HT := Z_ (show FX = (5, p) by rw [← HF.out]; unfold nameF; rw [if_pos (show (keysF L).contains (Nd.mk k t mm l).key = true from HKE.out.symm.trans HIS.out)]); go_wp2_with fail
  refine (must_no 5 (p : Nat) _).mono ?_
  rintro e w2 ⟨rfl, rfl⟩; go_wp2_with fail
  refine ⟨rfl, ?_⟩
  exact dies HT.out (by decide) HD.out.ext
 | false =>
  have hlen := HD.out.nm.len; by_cases h20 : 20 ≤ L.length
  ·have HT := Z_ (show FX = (1, p) by rw [← HF.out]; unfold nameF; rw [if_neg (show ¬ (keysF L).contains (Nd.mk k t mm l).key = true by rw [show (keysF L).contains (Nd.mk k t mm l).key = false from HKE.out.symm.trans HIS.out]; exact Bool.false_ne_true), if_pos h20])
   have h2i : ¬ (L.length : Int) < 20 := by omega
   have h2d : decide ((L.length : Int) < 20) = false := by simpa using h2i
   have h2e : decide (L.length < 20) = false := by simp; omega
   go_wp2_with fail
   refine (must_yes 5 (p : Nat) _).mono ?_
   rintro e w2 ⟨rfl, rfl⟩; go_wp2_with fail
   refine (must_no 1 (p : Nat) _).mono ?_
   rintro e w2 ⟨rfl, rfl⟩; go_wp2_with fail
   refine ⟨rfl, ?_⟩
   exact dies HT.out (by decide) HD.out.ext
  ·have HT := Z_ (show FX = declF x p by rw [← HF.out, ← HXE.out]; unfold nameF; rw [if_neg (show ¬ (keysF L).contains (Nd.mk k t mm l).key = true by rw [show (keysF L).contains (Nd.mk k t mm l).key = false from HKE.out.symm.trans HIS.out]; exact Bool.false_ne_true), if_neg h20])
   have h2i : (L.length : Int) < 20 := by omega
   have h2d : decide ((L.length : Int) < 20) = true := by simpa using h2i
   have h2e : decide (L.length < 20) = true := by simp; omega
   have hnone : assF L t = none := by cases hq : assF L t with
    | none => rfl
    | some c => have := HIS.out; rw [hq] at this; cases this
   obtain ⟨w2, hput, hM2, hg2⟩ := HD.out.nm.put (v := (p : Nat)) hnone (by unfold maxLen; omega : t.size ≤ maxLen) (by unfold maxLen; omega) (by omega) (by omega); have HD2 := Z_ (HD.out.name hg2 hM2); have HK2 := Z_ (HK.out.chg (grown_at hg2) (by have := HD.out.mnB; omega)); have HC2 := Z_ (HC.out.trans (grown_at hg2) (fun i _ e => .inr (.inl e))); clear hnone hM2 hg2 HF HKE HIS HD HK HC; go_wp2_with fail
   refine (must_yes 5 (p : Nat) _).mono ?_
   rintro e w3 ⟨rfl, rfl⟩; go_wp2_with fail
   refine (must_yes 1 (p : Nat) _).mono ?_
   rintro e w3 ⟨rfl, rfl⟩; go_upto_region 5 with (fail)
   obtain ⟨z2, hz2⟩ : ∃ z, bits .and .i64 mm 2 = z := ⟨_, rfl⟩; obtain ⟨m2, hm2⟩ : ∃ z, mm % 2 = z := ⟨_, rfl⟩; obtain ⟨b1, hb1⟩ : ∃ b, decide (2 ≤ mm % 4) = b := ⟨_, rfl⟩
   have hzb : (z2 != 0) = b1 := by
    rw [← hb1, ← hz2, HB2.out]; by_cases h4 : 2 ≤ mm % 4
    ·rw [if_pos h4, decide_eq_true h4]; rfl
    ·rw [if_neg h4, decide_eq_false h4]; rfl
   have hz1 := HB1.out; rw [hm2] at hz1; have HM := Z_ (And.intro hb1 hm2); clear hlook hlen hput hc h2i h2d h2e hb1 hm2 his; have hk := HK2.out.cell; go_quiet (fail)
   replace HD2 := Z_ (HD2.out.extend ((Chg.refl _ _).drewN nq)); replace HK2 := Z_ (HK2.out.ext ((Chg.refl _ _).drewN nq)); replace HC2 := Z_ (HC2.out.drewN nq); generalize w2.drewN nq = w4 at *; clear hk hz2 hz1 hzb; have hk := HK2.out.cell; rcases HOK.out with hv | hv
   ·have hk3 : k = 3 := hv.kd
    subst hk3; have hkk : l = [] ∨ ∃ y, l = [y] ∧ 0 ≤ y.nm ∧ y.nm < 9223372036854775808 := hv.kids; have hiv : isVar x = true := by rw [← HXE.out]; simp [isVar, Nd.kd]
    have HIV := Z_ hiv; clear hv HOK hiv; go_upto_region 8 with (fail)
    have HV0 := Z_ (Blk.made w4 #[.string t, .bool b1, .int .i64 m2, .int .i64 0] 70); have HE4 := Z_ ((Chg.refl (fun _ => False) w4).alloc (.cells #[.string t, .bool b1, .int .i64 m2, .int .i64 0] 70)); have hK4 := HK2.out.lt; have HRV := Z_ (fun i e => (grow_own HD2.out.rows.gv i e).2); have HBV := Z_ HD2.out.hu; have HD4 := HD2; have HC4 := HC2; replace HC2 := Z_ (HC2.out.ext HE4.out); replace HD2 := Z_ (HD2.out.extend HE4.out); replace HK2 := Z_ (HK2.out.ext HE4.out); have HV4 := Z_ (Nat.le_refl w4.heap.size); obtain ⟨Vb, hVb⟩ : ∃ Vb, w4.heap.size = Vb := ⟨_, rfl⟩; rw [hVb] at HV0 hK4 HRV HBV; replace HV4 : Hid (w4.heap.size = Vb) := Z_ hVb
    try rw [hVb]
    clear hk; generalize w4.alloc (.cells #[.string t, .bool b1, .int .i64 m2, .int .i64 0] 70) = w5 at *; clear hVb; have hk := HK2.out.cell; have hRV : rv.ownBlock ≠ some Vb := fun e => by have := HRV.out Vb e; omega
    obtain ⟨ra, rc, hrow, -, -⟩ := grow_slice HD2.out.rows.gv; subst hrow; rcases hkk with rfl | ⟨y, rfl, hy0, hy1⟩
    ·obtain rfl : N = 0 := by simpa using HN.out.symm
     have HT9 := Z_ (show FX = (0, 0) by rw [HT.out, ← HXE.out]; rfl); have hvo : varOf x = ⟨t, b1, m2, 0⟩ := by rw [← HXE.out]; show FVar.mk t (decide (2 ≤ mm % 4)) (mm % 2) 0 = _; rw [HM.out.1, HM.out.2]
     have HVO := Z_ hvo; clear hvo; go_upto_region 12 with (fail)
     clear hk; have HVX := HV0; refine wp_region_weave [7, 8, 12] (fun i v _ => v = ([.pointer (some ⟨D, 0, none⟩), .pointer (some ⟨D, 0, none⟩), .pointer (some ⟨D, 0, none⟩), .pointer (some ⟨D, 0, none⟩), .pointer (some ⟨D, 1, none⟩), .slice ra vs.length rc, .agg #[.string t, .bool b1, .int .i64 m2, .int .i64 0], undef, undef, .pointer (some ⟨D, 0, none⟩), .pointer (some ⟨D, 0, none⟩), .pointer (some ⟨D, 1, none⟩), undef] : List Value).getD i undef) (ofp.PushX (fun u rN r l => DS w0 u D Mn Ma B m n0 n1 n2 n3 rN rp ri r rp ri l ps is (L ++ [(t, (p : Int))]) A ∧ Blk u Vb #[.string t, .bool b1, .int .i64 m2, .int .i64 0] 70 ∧ Chg (TurnS D Mn (.slice ra vs.length rc) rp) w u) (fun _ => false) OVar (B) 70 (.slice ra vs.length rc) vs ⟨t, b1, m2, 0⟩ (.agg #[.string t, .bool b1, .int .i64 m2, .int .i64 0])) (fun _ _ => True) (frame := ?frav) (fun x => ?hfav) synw.mixed (by kernel_rfl) (by kernel_rfl) (fun _ _ _ _ h _ => h) ?h0v ?stv ?finv
     case hfav =>
      simp only [chain.frameOf, chain.fill, chain.setOpt, chain.dstOf, List.size_toArray, List.length_cons, List.length_nil, List.getElem?_toArray, List.getElem?_cons_succ, List.getElem?_cons_zero, List.setIfInBounds_toArray, List.set_cons_succ, List.set_cons_zero]; exact rfl
     case h0v => exact ⟨⟨HD2.out.extend (Chg.refl _ _).drew, HVX.out.ext (Chg.refl _ _).drew, HC2.out.drew⟩, rfl, hx3⟩
     case stv =>
      refine AllFrom.cons (fun x vs u hF hm hb hd K' hK' => ?sv0) (AllFrom.cons (fun x vs u hF hm hb hd K' hK' => ?sv1) (AllFrom.cons (fun x vs u hF hm hb hd K' hK' => ?sv2) (AllFrom.cons (fun x vs u hF hm hb hd K' hK' => ?sv3) (AllFrom.cons (fun x vs u hF hm hb hd K' hK' => ?sv4) (AllFrom.cons (fun x vs u hF hm hb hd K' hK' => ?sv5) (AllFrom.cons (fun x vs u hF hm hb hd K' hK' => ?sv6) (AllFrom.cons (fun x vs u hF hm hb hd K' hK' => ?sv7) (AllFrom.cons (fun x vs u hF hm hb hd K' hK' => ?sv8) (AllFrom.cons (fun x vs u hF hm hb hd K' hK' => ?sv9) (AllFrom.cons (fun x vs u hF hm hb hd K' hK' => ?sv10) (AllFrom.cons (fun x vs u hF hm hb hd K' hK' => ?sv11) (AllFrom.cons (fun x vs u hF hm hb hd K' hK' => ?sv12) (AllFrom.nil)))))))))))))
      case sv0 =>
       have HF := Z_ hF; clear hd hm hb hF; go_simp; exact hK'.out _ _ _ (rfl) trivial ⟨rfl, HF.out⟩
      case sv1 =>
       have HF := Z_ hF; clear hd hm hb hF; go_simp; exact hK'.out _ _ _ (rfl) trivial ⟨rfl, HF.out⟩
      case sv2 =>
       have y0 := hd 1 (by decide) (by kernel_rfl); replace y0 : x 76 = .pointer (some ⟨D, 0, none⟩) := y0; have HF := Z_ hF; clear hd hm hb hF; go_simp; exact hK'.out _ _ _ (by simp only [y0]; rfl) trivial ⟨rfl, HF.out⟩
      case sv3 =>
       have y0 := hd 2 (by decide) (by kernel_rfl); replace y0 : x 77 = .pointer (some ⟨D, 0, none⟩) := y0; have HF := Z_ hF; clear hd hm hb hF; go_simp; exact hK'.out _ _ _ (by simp only [y0]; rfl) trivial ⟨rfl, HF.out⟩
      case sv4 =>
       have y0 := hd 3 (by decide) (by kernel_rfl); replace y0 : x 78 = .pointer (some ⟨D, 0, none⟩) := y0; have HF := Z_ hF; clear hd hm hb hF; go_simp; exact hK'.out _ _ _ (by simp only [y0]; rfl) trivial ⟨rfl, HF.out⟩
      case sv5 =>
       have hc := (ofp.PushX.B hF (by have := hb 1 _ (by decide) rfl (by kernel_rfl); omega)).1.d.cell; have y0 := hd 4 (by decide) (by kernel_rfl); replace y0 : x 79 = .pointer (some ⟨D, 1, none⟩) := y0; have HF := Z_ hF; clear hd hm hb hF; go_simp; exact hK'.out _ _ _ (by simp only [y0]; rfl) trivial ⟨rfl, HF.out⟩
      case sv6 =>
       have hc := (ofp.PushX.B hF (by have := hb 0 _ (by decide) rfl (by kernel_rfl); omega)).2.1.cell; have HF := Z_ hF; clear hd hm hb hF; go_simp; exact hK'.out _ _ _ (rfl) trivial ⟨rfl, HF.out⟩
      case sv7 =>
       obtain rfl := List.eq_nil_of_length_eq_zero (hm 0 (by kernel_rfl)); have y0 := hd 6 (by decide) (by kernel_rfl); replace y0 : x 81 = .agg #[.string t, .bool b1, .int .i64 m2, .int .i64 0] := y0; have hBB := hF.1; have HG := Z_ (ofp.growx_own (grow_x hBB.1.rows.gv var_any (fun _ => false))); have HF := Z_ hF; clear hd hm hb hF hBB; go_simp; exact hK'.out _ _ _ (by simp only [y0]; rfl) trivial (ofp.pushx_slice ofp.var_keeps (fun u' hE => ⟨HF.out.1.1.extend hE, HF.out.1.2.1.ext hE, HF.out.1.2.2.ext hE⟩) (fun i e => (HG.out i e).2) HF.out rfl)
      case sv8 =>
       obtain ⟨v0, rfl⟩ : ∃ v0, vs = [v0] := by match vs, hm 1 (by kernel_rfl) with | [v0], _ => exact ⟨_, rfl⟩
       have y0 := hd 5 (by decide) (by kernel_rfl); replace y0 : x 80 = .slice ra vs.length rc := y0; have y1 := hd 7 (by decide) (by kernel_rfl) 82 (by kernel_rfl); replace y1 : x 82 = v0 := y1; have hF2 := hF; obtain ⟨hBB, hxx, gg, rfl, hgb, hgr⟩ := hF2; obtain ⟨us, hu1, ho, hu3⟩ := (grow_x hBB.1.rows.gv var_any (fun _ => false)).ex; obtain ⟨i0_, hi_, hz0, hz1, hz2⟩ := synw.info_split ofp.info_var; have hbz : B ≤ u.heap.size := by exact hBB.1.hu
       refine wp_append_lies _ _ _ 34 rfl (B) 70 i0_ (.agg #[.string ⟨#[]⟩, .bool false, .int .i64 0, .int .i64 0]) 4 40 Tryz.underlying34 hi_ hz0 hz1 hz2 rfl (by decide) (.slice ra vs.length rc) vs.length (us.flatMap fun u => u.cells.toList) y0 ho ⟨gg, 0, none⟩ 1 1 [.string t, .bool b1, .int .i64 m2, .int .i64 0] y1 rfl ?_ (by intro z_ hz_; simp only [List.mem_cons, List.not_mem_nil, or_false] at hz_; rcases hz_ with rfl | rfl | rfl | rfl <;> rfl) (by decide) (by unfold maxLen; omega) (by omega) hbz u.heap.size rfl ?_
       ·intro j q hj; have e : (⟨gg, 0, none⟩ : Addr).add j = ⟨gg, j, none⟩ := (by unfold Addr.add; split <;> simp_all); rw [e, hgb.cell]; simpa [Value.cells] using hj
       ·intro g9 c9 w9 ho9 hg9 ha9 hl9
        exact hK'.out _ _ _ rfl trivial (ofp.pushx_append ofp.var_keeps hF hu1 hu3 rfl (fun r acc1 hG hC ha => ⟨hBB.1.turn hC (fun i e => (grow_own hBB.1.rows.gv i e).1) (hBB.1.rows.pushV (x_grow hG var_any) hC ha), hBB.2.1.chg hC hRV, hBB.2.2.trans hC (fun i _ e => .inr (.inr (.inl e)))⟩) ho9 hg9 ha9)
      case sv9 =>
       have y0 := hd 0 (by decide) (by kernel_rfl); replace y0 : x 75 = .pointer (some ⟨D, 0, none⟩) := y0; have HF := Z_ hF; clear hd hm hb hF; go_simp; exact hK'.out _ _ _ (by simp only [y0]; rfl) trivial ⟨rfl, HF.out⟩
      case sv10 =>
       have y0 := hd 9 (by decide) (by kernel_rfl); replace y0 : x 84 = .pointer (some ⟨D, 0, none⟩) := y0; have HF := Z_ hF; clear hd hm hb hF; go_simp; exact hK'.out _ _ _ (by simp only [y0]; rfl) trivial ⟨rfl, HF.out⟩
      case sv11 =>
       have y0 := hd 10 (by decide) (by kernel_rfl); replace y0 : x 85 = .pointer (some ⟨D, 0, none⟩) := y0; have HF := Z_ hF; clear hd hm hb hF; go_simp; exact hK'.out _ _ _ (by simp only [y0]; rfl) trivial ⟨rfl, HF.out⟩
      case sv12 =>
       obtain ⟨v0, v1, rfl⟩ : ∃ v0 v1, vs = [v0, v1] := by match vs, hm 2 (by kernel_rfl) with | [v0, v1], _ => exact ⟨_, _, rfl⟩
       have y0 := hd 11 (by decide) (by kernel_rfl); replace y0 : x 86 = .pointer (some ⟨D, 1, none⟩) := y0; have y1 := hd 8 (by decide) (by kernel_rfl) 83 (by kernel_rfl); replace y1 : x 83 = v1 := y1; have hF2 := hF; obtain ⟨hBB, gg, cc, rfl⟩ := hF2; have hc := hBB.1.d.cell 1; have hf := hBB.1.d.frozen 1; have hl := hBB.1.d.lt; simp at hc
       have HF := Z_ hF; clear hd hm hb hF hBB; go_simp; exact hK'.out _ _ undef (by simp only [y0, y1]; rfl) trivial (ofp.pushx_store (z := undef) HF.out (fun h => ⟨h.1.putV, h.2.1.setOther (p := ⟨D, 1, none⟩) (by have := h.1.dDB; have := HBV.out; show Vb ≠ D; omega) _, h.2.2.setCell (fun _ => .inl rfl) _⟩))
     case finv =>
      intro x9 vs9 w9 hl hF hk9; obtain ⟨v0, v1, v2, rfl⟩ : ∃ v0 v1 v2, vs9 = [v0, v1, v2] := by match vs9, hl with | [v0, v1, v2], _ => exact ⟨_, _, _, rfl⟩
      clear hk9 hl; have HD9 := Z_ (show DS _ _ _ _ _ _ _ _ _ _ _ _ _ _ _ _ _ _ _ _ _ _ from hF.1); have HC9 := Z_ (show Chg _ _ _ from hF.2.2); clear hF; go_wp2_with fail
      go_end0
      exact ⟨fun _ => ⟨rfl, _, _, by rw [if_pos HIV.out, if_pos HIV.out, HVO.out, show x.tx = t by rw [← HXE.out]; rfl]; exact HD9.out, HC9.out⟩, fun h => absurd (by rw [HT9.out]) h⟩
    ·obtain rfl : N = 1 := by simpa using HN.out.symm
     obtain ⟨bb, ob, rfl, hb, u, hu, hus, hcl⟩ := HI.out w0 (Chg.refl _ _) 0 (by simp); rw [hide_size] at hb; obtain ⟨ky, ty, my, ly⟩ := y; rw [List.getElem_cons_zero, ndAt_mk] at hu; obtain ⟨ay, cy, rfl, -⟩ := hu; have q2 : w5.cell? ⟨bb, ob + 2, none⟩ = some (.int .i64 my) := (HD2.out.ext.cell (p := ⟨bb, ob + 2, none⟩) hb id).trans ((keeps_bare H w0).2 _ _ (by have h := hcl 2 (by decide); simp only [Nat.zero_mul, Nat.add_zero] at h; exact h)); have hbl := Nat.lt_of_lt_of_le hb HD2.out.ext.size; clear hcl hus; have hd : declF (Nd.mk 3 t mm [Nd.mk ky ty my ly]) p = if 1 ≤ my ∧ my ≤ 64 then (0, 0) else (6, p) := rfl
     have hT9 : FX = if 1 ≤ my ∧ my ≤ 64 then (0, 0) else (6, p) := by rw [HT.out, ← HXE.out]; exact hd
     clear hd; by_cases h1 : 1 ≤ my
     ·have h1d : decide (1 ≤ my) = true := by simpa using h1
      by_cases h2 : my ≤ 64
      ·have h2d : decide (my ≤ 64) = true := by simpa using h2
       rw [if_pos ⟨h1, h2⟩] at hT9; have HT9 := Z_ hT9; have hvo : varOf x = ⟨t, b1, m2, my⟩ := by rw [← HXE.out]; show FVar.mk t (decide (2 ≤ mm % 4)) (mm % 2) my = _; rw [HM.out.1, HM.out.2]
       have HVO := Z_ hvo; clear hT9 hvo hy0 hy1; go_wp2_with fail
       refine (must_yes 6 (p : Nat) _).mono ?_
       rintro e w6 ⟨rfl, rfl⟩; clear hk q2; have hvf := HV0.out.frozen; have hvc := HV0.out.cell; have hvl := HV0.out.lt; have HVX := Z_ (show Blk (w6.setCell ⟨Vb, 3, none⟩ (.int .i64 my)) Vb #[.string t, .bool b1, .int .i64 m2, .int .i64 my] 70 from by have := HV0.out.set 3 (.int .i64 my); exact this); have hCV := chg_set (S := Vb) (Chg.refl _ w6) 3 (.int .i64 my); have HCX := Z_ (HC4.out.ext ((HE4.out).setNew (p := ⟨Vb, 3, none⟩) (by show _ ≤ Vb; have := HV4.out; omega) (.int .i64 my))); have HDX := Z_ (HD4.out.extend ((HE4.out).setNew (p := ⟨Vb, 3, none⟩) (by show _ ≤ Vb; have := HV4.out; omega) (.int .i64 my))); clear hCV; go_upto_region 12 with (fail)
       clear hvf hvc hvl; generalize w6.setCell ⟨Vb, 3, none⟩ (.int .i64 my) = w7 at *; refine wp_region_weave [7, 8, 12] (fun i v _ => v = ([.pointer (some ⟨D, 0, none⟩), .pointer (some ⟨D, 0, none⟩), .pointer (some ⟨D, 0, none⟩), .pointer (some ⟨D, 0, none⟩), .pointer (some ⟨D, 1, none⟩), .slice ra vs.length rc, .agg #[.string t, .bool b1, .int .i64 m2, .int .i64 my], undef, undef, .pointer (some ⟨D, 0, none⟩), .pointer (some ⟨D, 0, none⟩), .pointer (some ⟨D, 1, none⟩), undef] : List Value).getD i undef) (ofp.PushX (fun u rN r l => DS w0 u D Mn Ma B m n0 n1 n2 n3 rN rp ri r rp ri l ps is (L ++ [(t, (p : Int))]) A ∧ Blk u Vb #[.string t, .bool b1, .int .i64 m2, .int .i64 my] 70 ∧ Chg (TurnS D Mn (.slice ra vs.length rc) rp) w u) (fun _ => false) OVar (B) 70 (.slice ra vs.length rc) vs ⟨t, b1, m2, my⟩ (.agg #[.string t, .bool b1, .int .i64 m2, .int .i64 my])) (fun _ _ => True) (frame := ?fraz) (fun x => ?hfaz) synw.mixed (by kernel_rfl) (by kernel_rfl) (fun _ _ _ _ h _ => h) ?h0z ?stz ?finz
       case hfaz =>
        simp only [chain.frameOf, chain.fill, chain.setOpt, chain.dstOf, List.size_toArray, List.length_cons, List.length_nil, List.getElem?_toArray, List.getElem?_cons_succ, List.getElem?_cons_zero, List.setIfInBounds_toArray, List.set_cons_succ, List.set_cons_zero]; exact rfl
       case h0z => exact ⟨⟨HDX.out.extend (Chg.refl _ _).drew, HVX.out.ext (Chg.refl _ _).drew, HCX.out.drew⟩, rfl, hx3⟩
       case stz =>
        refine AllFrom.cons (fun x vs u hF hm hb hd K' hK' => ?sz0) (AllFrom.cons (fun x vs u hF hm hb hd K' hK' => ?sz1) (AllFrom.cons (fun x vs u hF hm hb hd K' hK' => ?sz2) (AllFrom.cons (fun x vs u hF hm hb hd K' hK' => ?sz3) (AllFrom.cons (fun x vs u hF hm hb hd K' hK' => ?sz4) (AllFrom.cons (fun x vs u hF hm hb hd K' hK' => ?sz5) (AllFrom.cons (fun x vs u hF hm hb hd K' hK' => ?sz6) (AllFrom.cons (fun x vs u hF hm hb hd K' hK' => ?sz7) (AllFrom.cons (fun x vs u hF hm hb hd K' hK' => ?sz8) (AllFrom.cons (fun x vs u hF hm hb hd K' hK' => ?sz9) (AllFrom.cons (fun x vs u hF hm hb hd K' hK' => ?sz10) (AllFrom.cons (fun x vs u hF hm hb hd K' hK' => ?sz11) (AllFrom.cons (fun x vs u hF hm hb hd K' hK' => ?sz12) (AllFrom.nil)))))))))))))
        case sz0 =>
         have HF := Z_ hF; clear hd hm hb hF; go_simp; exact hK'.out _ _ _ (rfl) trivial ⟨rfl, HF.out⟩
        case sz1 =>
         have HF := Z_ hF; clear hd hm hb hF; go_simp; exact hK'.out _ _ _ (rfl) trivial ⟨rfl, HF.out⟩
        case sz2 =>
         have y0 := hd 1 (by decide) (by kernel_rfl); replace y0 : x 76 = .pointer (some ⟨D, 0, none⟩) := y0; have HF := Z_ hF; clear hd hm hb hF; go_simp; exact hK'.out _ _ _ (by simp only [y0]; rfl) trivial ⟨rfl, HF.out⟩
        case sz3 =>
         have y0 := hd 2 (by decide) (by kernel_rfl); replace y0 : x 77 = .pointer (some ⟨D, 0, none⟩) := y0; have HF := Z_ hF; clear hd hm hb hF; go_simp; exact hK'.out _ _ _ (by simp only [y0]; rfl) trivial ⟨rfl, HF.out⟩
        case sz4 =>
         have y0 := hd 3 (by decide) (by kernel_rfl); replace y0 : x 78 = .pointer (some ⟨D, 0, none⟩) := y0; have HF := Z_ hF; clear hd hm hb hF; go_simp; exact hK'.out _ _ _ (by simp only [y0]; rfl) trivial ⟨rfl, HF.out⟩
        case sz5 =>
         have hc := (ofp.PushX.B hF (by have := hb 1 _ (by decide) rfl (by kernel_rfl); omega)).1.d.cell; have y0 := hd 4 (by decide) (by kernel_rfl); replace y0 : x 79 = .pointer (some ⟨D, 1, none⟩) := y0; have HF := Z_ hF; clear hd hm hb hF; go_simp; exact hK'.out _ _ _ (by simp only [y0]; rfl) trivial ⟨rfl, HF.out⟩
        case sz6 =>
         have hc := (ofp.PushX.B hF (by have := hb 0 _ (by decide) rfl (by kernel_rfl); omega)).2.1.cell; have HF := Z_ hF; clear hd hm hb hF; go_simp; exact hK'.out _ _ _ (rfl) trivial ⟨rfl, HF.out⟩
        case sz7 =>
         obtain rfl := List.eq_nil_of_length_eq_zero (hm 0 (by kernel_rfl)); have y0 := hd 6 (by decide) (by kernel_rfl); replace y0 : x 81 = .agg #[.string t, .bool b1, .int .i64 m2, .int .i64 my] := y0; have hBB := hF.1; have HG := Z_ (ofp.growx_own (grow_x hBB.1.rows.gv var_any (fun _ => false))); have HF := Z_ hF; clear hd hm hb hF hBB; go_simp; exact hK'.out _ _ _ (by simp only [y0]; rfl) trivial (ofp.pushx_slice ofp.var_keeps (fun u' hE => ⟨HF.out.1.1.extend hE, HF.out.1.2.1.ext hE, HF.out.1.2.2.ext hE⟩) (fun i e => (HG.out i e).2) HF.out rfl)
        case sz8 =>
         obtain ⟨v0, rfl⟩ : ∃ v0, vs = [v0] := by match vs, hm 1 (by kernel_rfl) with | [v0], _ => exact ⟨_, rfl⟩
         have y0 := hd 5 (by decide) (by kernel_rfl); replace y0 : x 80 = .slice ra vs.length rc := y0; have y1 := hd 7 (by decide) (by kernel_rfl) 82 (by kernel_rfl); replace y1 : x 82 = v0 := y1; have hF2 := hF; obtain ⟨hBB, hxx, gg, rfl, hgb, hgr⟩ := hF2; obtain ⟨us, hu1, ho, hu3⟩ := (grow_x hBB.1.rows.gv var_any (fun _ => false)).ex; obtain ⟨i0_, hi_, hz0, hz1, hz2⟩ := synw.info_split ofp.info_var; have hbz : B ≤ u.heap.size := by exact hBB.1.hu
         refine wp_append_lies _ _ _ 34 rfl (B) 70 i0_ (.agg #[.string ⟨#[]⟩, .bool false, .int .i64 0, .int .i64 0]) 4 40 Tryz.underlying34 hi_ hz0 hz1 hz2 rfl (by decide) (.slice ra vs.length rc) vs.length (us.flatMap fun u => u.cells.toList) y0 ho ⟨gg, 0, none⟩ 1 1 [.string t, .bool b1, .int .i64 m2, .int .i64 my] y1 rfl ?_ (by intro z_ hz_; simp only [List.mem_cons, List.not_mem_nil, or_false] at hz_; rcases hz_ with rfl | rfl | rfl | rfl <;> rfl) (by decide) (by unfold maxLen; omega) (by omega) hbz u.heap.size rfl ?_
         ·intro j q hj; have e : (⟨gg, 0, none⟩ : Addr).add j = ⟨gg, j, none⟩ := (by unfold Addr.add; split <;> simp_all); rw [e, hgb.cell]; simpa [Value.cells] using hj
         ·intro g9 c9 w9 ho9 hg9 ha9 hl9
          exact hK'.out _ _ _ rfl trivial (ofp.pushx_append ofp.var_keeps hF hu1 hu3 rfl (fun r acc1 hG hC ha => ⟨hBB.1.turn hC (fun i e => (grow_own hBB.1.rows.gv i e).1) (hBB.1.rows.pushV (x_grow hG var_any) hC ha), hBB.2.1.chg hC hRV, hBB.2.2.trans hC (fun i _ e => .inr (.inr (.inl e)))⟩) ho9 hg9 ha9)
        case sz9 =>
         have y0 := hd 0 (by decide) (by kernel_rfl); replace y0 : x 75 = .pointer (some ⟨D, 0, none⟩) := y0; have HF := Z_ hF; clear hd hm hb hF; go_simp; exact hK'.out _ _ _ (by simp only [y0]; rfl) trivial ⟨rfl, HF.out⟩
        case sz10 =>
         have y0 := hd 9 (by decide) (by kernel_rfl); replace y0 : x 84 = .pointer (some ⟨D, 0, none⟩) := y0; have HF := Z_ hF; clear hd hm hb hF; go_simp; exact hK'.out _ _ _ (by simp only [y0]; rfl) trivial ⟨rfl, HF.out⟩
        case sz11 =>
         have y0 := hd 10 (by decide) (by kernel_rfl); replace y0 : x 85 = .pointer (some ⟨D, 0, none⟩) := y0; have HF := Z_ hF; clear hd hm hb hF; go_simp; exact hK'.out _ _ _ (by simp only [y0]; rfl) trivial ⟨rfl, HF.out⟩
        case sz12 =>
         obtain ⟨v0, v1, rfl⟩ : ∃ v0 v1, vs = [v0, v1] := by match vs, hm 2 (by kernel_rfl) with | [v0, v1], _ => exact ⟨_, _, rfl⟩
         have y0 := hd 11 (by decide) (by kernel_rfl); replace y0 : x 86 = .pointer (some ⟨D, 1, none⟩) := y0; have y1 := hd 8 (by decide) (by kernel_rfl) 83 (by kernel_rfl); replace y1 : x 83 = v1 := y1; have hF2 := hF; obtain ⟨hBB, gg, cc, rfl⟩ := hF2; have hc := hBB.1.d.cell 1; have hf := hBB.1.d.frozen 1; have hl := hBB.1.d.lt; simp at hc
         have HF := Z_ hF; clear hd hm hb hF hBB; go_simp; exact hK'.out _ _ undef (by simp only [y0, y1]; rfl) trivial (ofp.pushx_store (z := undef) HF.out (fun h => ⟨h.1.putV, h.2.1.setOther (p := ⟨D, 1, none⟩) (by have := h.1.dDB; have := HBV.out; show Vb ≠ D; omega) _, h.2.2.setCell (fun _ => .inl rfl) _⟩))
       case finz =>
        intro x9 vs9 w9 hl hF hk9; obtain ⟨v0, v1, v2, rfl⟩ : ∃ v0 v1 v2, vs9 = [v0, v1, v2] := by match vs9, hl with | [v0, v1, v2], _ => exact ⟨_, _, _, rfl⟩
        clear hk9 hl; have HD9 := Z_ (show DS _ _ _ _ _ _ _ _ _ _ _ _ _ _ _ _ _ _ _ _ _ _ from hF.1); have HC9 := Z_ (show Chg _ _ _ from hF.2.2); clear hF; go_wp2_with fail
        go_end0
        exact ⟨fun _ => ⟨rfl, _, _, by rw [if_pos HIV.out, if_pos HIV.out, HVO.out, show x.tx = t by rw [← HXE.out]; rfl]; exact HD9.out, HC9.out⟩, fun h => absurd (by rw [HT9.out]) h⟩
      ·have h2d : decide (my ≤ 64) = false := by simpa using h2
       rw [if_neg (fun h => h2 h.2)] at hT9; have HT9 := Z_ hT9; clear hT9; go_wp2_with fail
       refine (must_no 6 (p : Nat) _).mono ?_
       rintro e w6 ⟨rfl, rfl⟩; go_wp2_with fail
       refine ⟨rfl, ?_⟩
       exact dies HT9.out (by decide) HD2.out.ext
     ·have h1d : decide (1 ≤ my) = false := by simpa using h1
      rw [if_neg (fun h => h1 h.1)] at hT9; have HT9 := Z_ hT9; clear hT9; go_wp2_with fail
      refine (must_no 6 (p : Nat) _).mono ?_
      rintro e w6 ⟨rfl, rfl⟩; go_wp2_with fail
      refine ⟨rfl, ?_⟩
      exact dies HT9.out (by decide) HD2.out.ext
   ·have hk4 : k = 4 := hv.kd
    subst hk4; have hkk : ∃ ps0 bl, l = ps0 ++ [bl] ∧ ∀ q ∈ ps0, 0 ≤ q.nm ∧ q.nm ≤ 1 := hv.kids; have hiv : isVar x = false := by rw [← HXE.out]; simp [isVar, Nd.kd]
    have HIV := Z_ hiv; obtain ⟨ps0, bl, hl0, hq0⟩ := hkk; obtain ⟨M, hM⟩ : ∃ M, M + 1 = N := ⟨ps0.length, by rw [← HN.out, hl0]; simp⟩; have hDl : l.dropLast = ps0 := by rw [hl0]; simp
    have hDM : ps0.length = M := by rw [← hDl, List.length_dropLast, HN.out]; omega
    obtain ⟨PR, hPR⟩ : ∃ PR, ps0.map Nd.nm = PR := ⟨_, rfl⟩; obtain ⟨b4, hb4⟩ : ∃ b, decide (4 ≤ mm) = b := ⟨_, rfl⟩; obtain ⟨m8, hm8⟩ : ∃ z, mm / 8 = z := ⟨_, rfl⟩; have hpo : procOf x = ⟨t, b1, PR, m2, b4, m8⟩ := by rw [← HXE.out, ← hPR, ← hDl]; show FProc.mk t (decide (2 ≤ mm % 4)) (l.dropLast.map Nd.nm) (mm % 2) (decide (4 ≤ mm)) (mm / 8) = _; rw [HM.out.1, HM.out.2, hb4, hm8]
    have HPO := Z_ hpo; have hd : declF (Nd.mk 4 t mm l) p = if 5 < l.dropLast.length then (1, p) else parF p 0 [] l.dropLast := rfl
    have hT9 : FX = if 5 < M then (1, p) else parF p 0 [] ps0 := by rw [HT.out, ← HXE.out, hd, hDl, hDM]
    have HT2 := Z_ hT9; have HKJ := Z_ (show ∀ (j : Nat) (hj : j < M), ∃ h1 : j < l.length, ∃ h2 : j < ps0.length, l[j] = ps0[j] from fun j hj => ⟨by have := HN.out; omega, by omega, by have h2 : j < ps0.length := (by omega); simp only [hl0]; rw [List.getElem_append_left h2]⟩); have HPR := Z_ hPR; have HQ0 := Z_ hq0; have HDM := Z_ hDM; clear hv HOK hiv hpo hd hT9 hPR hq0 hDM hDl hl0 HT; have hw0 : IntKind.i64.wrap ((N : Int) - 1) = (M : Int) := by rw [wrap_small _ (by omega) (by omega)]; omega
    have hMN : (M : Int) ≤ (N : Int) := by omega
    have hMc : (M : Int) ≤ (cc : Int) := by omega
    have hM0 : (0 : Int) ≤ (M : Int) := by omega
    by_cases h5 : 5 < M
    ·have h5d : decide ((M : Int) ≤ 5) = false := by simp; omega
     have h5e : decide (M ≤ 5) = false := by simp; omega
     have HT9 := Z_ (show FX = (1, p) by have := HT2.out; rw [if_pos h5] at this; exact this); clear HT2; go_wp2_with fail
     refine (must_no 1 (p : Nat) _).mono ?_
     rintro e w6 ⟨rfl, rfl⟩; go_wp2_with fail
     refine ⟨rfl, ?_⟩
     exact dies HT9.out (by decide) HD2.out.ext
    ·have h5d : decide ((M : Int) ≤ 5) = true := by simp; omega
     have h5e : decide (M ≤ 5) = true := by simp; omega
     obtain ⟨G, hG⟩ : ∃ G, parF p 0 [] ps0 = G := ⟨_, rfl⟩; have HT9 := Z_ (show FX = G by have := HT2.out; rw [if_neg h5, hG] at this; exact this); have HG := Z_ hG; clear HT2 hG; go_wp2_with fail
     refine (must_yes 1 (p : Nat) _).mono ?_
     rintro e w6 ⟨rfl, rfl⟩; have hmk := @run_makeMap Tryz.prog; go_upto_region 17 with (fail)
     have hPL0 : PL w6 ((w6.alloc (.cells #[.string t, .bool b1, .slice none 0 0, .int .i64 m2, .bool b4, .int .i64 m8] 68)).alloc (.map #[] 0)) w6.heap.size (w6.heap.size + 1) (w6.heap.size + 2) t b1 m2 b4 m8 (.slice none 0 0) (.slice none 0 0) [] [] := by
      have hm0 := WMap.made (w6.alloc (.cells #[.string t, .bool b1, .slice none 0 0, .int .i64 m2, .bool b4, .int .i64 m8] 68)); rw [show (w6.alloc (.cells #[.string t, .bool b1, .slice none 0 0, .int .i64 m2, .bool b4, .int .i64 m8] 68)).heap.size = w6.heap.size + 1 by simp] at hm0; exact ⟨((Chg.refl _ w6).alloc _).alloc _, (Blk.made w6 _ _).alloc _, hm0, Grow.nil _ _ _ _ _, Nat.le_refl _, by omega, by omega, by simp⟩
     have HPL := Z_ hPL0; have hK6 := HK2.out.lt; obtain ⟨Pb, hPb⟩ : ∃ Pb, w6.heap.size = Pb := ⟨_, rfl⟩; rw [hPb] at HPL hK6; have hB6 := HD2.out.hu; rw [hPb] at hB6
     try rw [hPb]
     clear hPL0 hk hmk hw0; generalize (w6.alloc (.cells #[.string t, .bool b1, .slice none 0 0, .int .i64 m2, .bool b4, .int .i64 m8] 68)).alloc (.map #[] 0) = w7 at *; obtain ⟨Ob, hOb⟩ : ∃ Ob, Pb + 1 = Ob := ⟨_, rfl⟩; obtain ⟨B2, hB2⟩ : ∃ B2, Pb + 2 = B2 := ⟨_, rfl⟩; rw [hOb, hB2] at HPL
     try rw [hOb]
     have HP6 := Z_ hPb; have HM5 := Z_ (show M ≤ 5 by omega); clear hOb hB2 hPb hMN hMc hM0 h5d h5e h5 hb4 hm8; generalize decide ((M : Int) ≤ 5) = bq5 at *; go_wp2_with fail
     go_loopw [113] (fun i wr => ∃ (j : Nat) (row : Value) (own : List (ByteArray × Int)), j ≤ M ∧ i = .int .i64 (j : Nat) ∧ own.length = j ∧ Hid (parF p j (keysF own) (ps0.drop j) = G) ∧ Hid (PL w6 wr Pb Ob B2 t b1 m2 b4 m8 row row (PR.take j) own)) (fun i _ => M - (intOf i).toNat)
     case atStart => exact ⟨0, _, [], Nat.zero_le _, rfl, rfl, by rw [List.drop_zero]; exact HG, HPL⟩
     clear HPL HG
     case round =>
      obtain ⟨j, row, own, hjM, rfl, hol, HG, HPL⟩ := hrel; by_cases hlj : j < M
      ·have hji : (j : Int) < (M : Int) := by omega
       have hjd : decide ((j : Int) < (M : Int)) = true := by simpa using hji
       obtain ⟨h1, h2, hlp⟩ := HKJ.out j hlj; obtain ⟨bb, ob, e1, hb, u, hu, hus, hcl⟩ := HI.out w0 (Chg.refl _ _) j h1; subst e1; rw [hide_size] at hb; have hE0 : Ext w0 wr := HD2.out.ext.ext HPL.out.ext; have hbl := Nat.lt_of_lt_of_le hb hE0.size; have hG2 := HG.out; rw [List.drop_eq_getElem_cons h2, ← hlp] at hG2; have hPRj := take_nm HPR.out h2; rw [← hlp] at hPRj; generalize l[j] = y at hu hG2 hPRj; obtain ⟨ky, ty, my, ly⟩ := y; rw [ndAt_mk] at hu; obtain ⟨ay, cy, rfl, -, -, hty, -⟩ := hu; have q0 : wr.cell? ⟨bb, ob + j * 4, none⟩ = some (.int .i64 ky) := (hE0.cell (p := ⟨bb, ob + j * 4, none⟩) hb id).trans ((keeps_bare H w0).2 _ _ ((hcl 0 (by decide)).trans rfl)); have q1 : wr.cell? ⟨bb, ob + j * 4 + 1, none⟩ = some (.string ty) := (hE0.cell (p := ⟨bb, ob + j * 4 + 1, none⟩) hb id).trans ((keeps_bare H w0).2 _ _ ((hcl 1 (by decide)).trans rfl)); have q2 : wr.cell? ⟨bb, ob + j * 4 + 2, none⟩ = some (.int .i64 my) := (hE0.cell (p := ⟨bb, ob + j * 4 + 2, none⟩) hb id).trans ((keeps_bare H w0).2 _ _ ((hcl 2 (by decide)).trans rfl))
       have q3 : wr.cell? ⟨bb, ob + j * 4 + 3, none⟩ = some (.slice ay ly.length cy) := (hE0.cell (p := ⟨bb, ob + j * 4 + 3, none⟩) hb id).trans ((keeps_bare H w0).2 _ _ ((hcl 3 (by decide)).trans rfl)); clear hcl hus hlp hE0; obtain ⟨Ny, hNy⟩ : ∃ Ny, ly.length = Ny := ⟨_, rfl⟩; rw [hNy] at q3; rw [parF] at hG2; have HG2 := Z_ hG2; have HPJ := Z_ hPRj; have HQ := Z_ (Blk.made wr #[.int .i64 ky, .string ty, .int .i64 my, .slice ay Ny cy] 24); have HPL0 := HPL; replace HPL := Z_ (HPL.out.extend ((Chg.refl (fun _ => False) wr).alloc (.cells #[.int .i64 ky, .string ty, .int .i64 my, .slice ay Ny cy] 24))); have HQO := Z_ (show Ob < wr.heap.size from by have := HPL0.out.hOB; have := HPL0.out.hu; omega); obtain ⟨Q, hQ⟩ : ∃ Q, wr.heap.size = Q := ⟨_, rfl⟩; rw [hQ] at HQ HQO; clear HPL0; clear hG2 hPRj HG hNy; go_upto_region 20 with (fail)
       try rw [hQ]
       generalize wr.alloc (.cells #[.int .i64 ky, .string ty, .int .i64 my, .slice ay Ny cy] 24) = u1 at *; clear q0 q1 q2 q3 hQ; have hq := HQ.out.cell; have hqf := HQ.out.frozen; have hlook := HPL.out.om.look (s := ty) (by unfold maxLen; omega); have HKO := Z_ (ass_keys own ty); obtain ⟨is2, his2⟩ : ∃ b, (assF own ty).isSome = b := ⟨_, rfl⟩; have HIS2 := Z_ his2; rw [his2] at hlook; generalize (assF own ty).getD 0 = c2 at *; obtain ⟨p1, hp1⟩ : ∃ p1, p1 = p + 1 := ⟨_, rfl⟩; obtain ⟨p2, hp2⟩ : ∃ p2, p2 = p + 1 + j := ⟨_, rfl⟩; have hNM := HM5.out; have HW1 := Z_ (show IntKind.i64.wrap ((p : Int) + 1) = (p1 : Int) by rw [wrap_small _ (by omega) (by omega)]; omega); have HW2 := Z_ (show IntKind.i64.wrap ((p1 : Int) + (j : Int)) = (p2 : Int) by rw [wrap_small _ (by omega) (by omega)]; omega); have HP2 := Z_ hp2; have HOL := Z_ hol; have hv1 : own.length < 9223372036854775807 := by omega
       clear hp1 hp2 his2 hol hNM; cases is2 with
       | true =>
        have HT3 := Z_ (show FX = (5, p2) by rw [HT9.out, ← HG2.out, if_pos (show (keysF own).contains (Nd.mk ky ty my ly).key = true from HKO.out.symm.trans HIS2.out), HP2.out]); have hw1 := HW1.out; have hw2 := HW2.out; go_wp2_with fail
        refine (must_no 5 (p2 : Nat) _).mono ?_
        rintro e w8 ⟨rfl, rfl⟩; go_wp2_with fail
        refine ⟨rfl, ?_⟩
        exact dies HT3.out (by decide) (HD2.out.ext.ext HPL.out.ext)
       | false =>
        have hG3 := HG2.out; rw [if_neg (by rw [show (keysF own).contains (Nd.mk ky ty my ly).key = false from HKO.out.symm.trans HIS2.out]; exact Bool.false_ne_true)] at hG3; have HG3 := Z_ hG3
        have hnone : assF own ty = none := by cases hq9 : assF own ty with
         | none => rfl
         | some c => have := HIS2.out; rw [hq9] at this; cases this
        obtain ⟨u2, hput, hM2, hg2⟩ := HPL.out.om.put (v := (j : Nat)) hnone (by unfold maxLen; omega : ty.size ≤ maxLen) (by unfold maxLen; exact hv1) (by omega) (by have := HM5.out; omega); have HPL2 := Z_ (HPL.out.name hg2 hM2); have HQ2 := Z_ (HQ.out.chg (grown_at hg2) (by have := HPL.out.om.lt; have := HQO.out; omega)); have hw1 := HW1.out; have hw2 := HW2.out; clear hnone hM2 hg2 HKO HIS2 hG3 HG2; go_wp2_with fail
        refine (must_yes 5 (p2 : Nat) _).mono ?_
        rintro e w8 ⟨rfl, rfl⟩; go_upto_region 23 with (fail)
        clear hq hqf hlook hput hw1 hw2; have hq := HQ2.out.cell; have hc := HPL2.out.pv.cell; have hf := HPL2.out.pv.frozen; have hl := HPL2.out.pv.lt; obtain ⟨ra2, rc2, hrow2, -, -⟩ := grow_slice HPL2.out.grow; have hPl : (PR.take j).length = j := by rw [List.length_take, ← HPR.out, List.length_map, HDM.out]; omega
        obtain ⟨PA, hPA⟩ : ∃ PA, PR.take j = PA := ⟨_, rfl⟩; rw [hPA] at HPL2 hrow2 hPl HPJ; subst hrow2; obtain ⟨us, hu1, ho, hu3⟩ := HPL2.out.grow.ex; have HO := Z_ ho; have HU9 := Z_ (And.intro hu1 hu3); have hub := HPL2.out.hu; obtain ⟨i0_, hi_, hz0, hz1, hz2⟩ := info_split info_int; have HPl := Z_ hPl; have hPl5 : PA.length ≤ 1000 := by have := HM5.out; omega
        clear ho hu1 hu3 hPl hPA; go_upto_region 24 with (at_builtin; refine wpList_append_lies _ rfl _ _ 46 rfl B2 3 i0_ (.int .i64 0) 1 8 Tryz.underlying46 hi_ hz0 hz1 hz2 rfl (by decide) (.slice ra2 PA.length rc2) PA.length (us.flatMap fun u => u.cells.toList) rfl (HO.out.alloc _) ⟨u2.heap.size, 0, none⟩ 1 1 [.int .i64 my] rfl rfl (by intro j z_ hj; have e : (⟨u2.heap.size, 0, none⟩ : Addr).add j = ⟨u2.heap.size, j, none⟩ := (by unfold Addr.add; split <;> simp_all); rw [e, (Blk.made u2 _ _).cell]; simpa using hj) (by intro z_ hz_; simp only [List.mem_cons, List.not_mem_nil, or_false] at hz_; subst hz_; rfl) (by decide) (by unfold maxLen; omega) (by omega) (by simp; omega) (u2.heap.size + 1) (by simp) ?_; intro g c' w9 hown hgrow hat hlt1; have HPU := Z_ (pushedG int_keeps HU9.out.1 HU9.out.2 (x := my) (v := .int .i64 my) rfl rfl hown hgrow hat); have HPL3 := Z_ (HPL2.out.more HPU.out.1 HPU.out.2); have q1 := HPL3.out.pv.cell; have q1f := HPL3.out.pv.frozen; have q1l := HPL3.out.pv.lt; clear hown hgrow hat hc hf hl hq)
        have HPL4 := Z_ HPL3.out.put; clear q1 q1f q1l HPU; go_wp2_with fail
        go_roundw
        case rel => exact ⟨j + 1, _, own ++ [(ty, (j : Int))], by omega, by go_num, by rw [List.length_append, HOL.out]; rfl, by have h := HG3.out; rw [show keysF (own ++ [(ty, (j : Int))]) = keysF own ++ [ty.data.toList] by simp [keysF]]; exact h, by rw [HPJ.out]; exact HPL4⟩
        case measure => simp [intOf]; omega
      ·obtain rfl : j = M := by omega
       have hjd : decide ((j : Int) < (j : Int)) = false := by simp
       have hG2 := HG.out; rw [List.drop_of_length_le (by rw [HDM.out]; exact Nat.le_refl _)] at hG2; have HT3 := Z_ (show FX = (0, 0) by rw [HT9.out, ← hG2]; rfl); have hPT : PR.take j = PR := List.take_of_length_le (by rw [← HPR.out, List.length_map, HDM.out]; exact Nat.le_refl _); rw [hPT] at HPL; obtain ⟨pa, pc, hprow, -, -⟩ := grow_slice HPL.out.grow; subst hprow; obtain ⟨pa', pc', e9, hpr1, hpr2, hpr3⟩ := HPL.out.grow.row int_keeps int_lies; injection e9 with e9 e10 e11
       subst e9 e11; have HDE := Z_ (HD2.out.extend HPL.out.ext); have HCE := Z_ (HC2.out.ext HPL.out.ext); obtain ⟨ra, rc, hrow, -, -⟩ := growx_slice HDE.out.rows.gp; have hRP : rp.ownBlock ≠ some Pb := fun e => by have := (growx_own HD2.out.rows.gp Pb e).2; have := HP6.out; omega
       have hrA : ∀ i, rp.ownBlock = some i → i < B2 := fun i e => by have := (growx_own HD2.out.rows.gp i e).2; have := HP6.out; have := HPL.out.hPO; have := HPL.out.hOB; omega
       have hXA : ∀ i, (fun i => ownB rv i || ownB ri i) i = true → i < B2 := fun i e => by
        simp only [Bool.or_eq_true, ownB, decide_eq_true_eq] at e; have := HP6.out; have := HPL.out.hPO; have := HPL.out.hOB
        rcases e with e | e
        ·have := (grow_own HD2.out.rows.gv i e).2; omega
        ·have := (grow_own HD2.out.rows.gi i e).2; omega
       have hfr := fresh_keeps (w := wr) (X := fun i => ownB rv i || ownB ri i) (row := rp) (B := B) (A := B2) (by have := HPL.out.hPO; have := HPL.out.hOB; omega) hrA hXA; have HX9 := Z_ (proc_keeps ⟨t, b1, PR, m2, b4, m8⟩ (.agg #[.string t, .bool b1, .slice pa PR.length pc, .int .i64 m2, .bool b4, .int .i64 m8]) _ _ hfr ⟨pa, pc, rfl, hpr3, hpr1, hpr2, hx3⟩); have HVX := Z_ HPL.out.pv; have HBV := Z_ (show B ≤ Pb from hB6); subst hrow; clear hfr hrA hXA hpr3 hG2 HG; go_upto_region 25 with (fail)
       clear hjd; refine wp_region_weave [7, 8, 12] (fun i v _ => v = ([.pointer (some ⟨D, 0, none⟩), .pointer (some ⟨D, 0, none⟩), .pointer (some ⟨D, 0, none⟩), .pointer (some ⟨D, 0, none⟩), .pointer (some ⟨D, 2, none⟩), .slice ra ps.length rc, .agg #[.string t, .bool b1, .slice pa PR.length pc, .int .i64 m2, .bool b4, .int .i64 m8], undef, undef, .pointer (some ⟨D, 0, none⟩), .pointer (some ⟨D, 0, none⟩), .pointer (some ⟨D, 2, none⟩), undef] : List Value).getD i undef) (ofp.PushX (fun u rN r l => DS w0 u D Mn Ma B m n0 n1 n2 n3 rv rN ri rv r ri vs l is (L ++ [(t, (p : Int))]) A ∧ Blk u Pb #[.string t, .bool b1, .slice pa PR.length pc, .int .i64 m2, .bool b4, .int .i64 m8] 68 ∧ Chg (TurnS D Mn rv (.slice ra ps.length rc)) w u) (fun i => ownB rv i || ownB ri i) OProc (B) 68 (.slice ra ps.length rc) ps ⟨t, b1, PR, m2, b4, m8⟩ (.agg #[.string t, .bool b1, .slice pa PR.length pc, .int .i64 m2, .bool b4, .int .i64 m8])) (fun _ _ => True) (frame := ?frap) (fun x => ?hfap) synw.mixed (by kernel_rfl) (by kernel_rfl) (fun _ _ _ _ h _ => h) ?h0p ?stp ?finp
       case hfap =>
        simp only [chain.frameOf, chain.fill, chain.setOpt, chain.dstOf, List.size_toArray, List.length_cons, List.length_nil, List.getElem?_toArray, List.getElem?_cons_succ, List.getElem?_cons_zero, List.setIfInBounds_toArray, List.set_cons_succ, List.set_cons_zero]; exact rfl
       case h0p => exact ⟨⟨HDE.out.extend (Chg.refl _ _).drew, HVX.out.ext (Chg.refl _ _).drew, HCE.out.drew⟩, proc_keeps _ _ _ _ (keeps_chg (Chg.refl (fun _ => False) _).drew fun _ _ e => e.elim) HX9.out⟩
       case stp =>
        refine AllFrom.cons (fun x vs u hF hm hb hd K' hK' => ?sp0) (AllFrom.cons (fun x vs u hF hm hb hd K' hK' => ?sp1) (AllFrom.cons (fun x vs u hF hm hb hd K' hK' => ?sp2) (AllFrom.cons (fun x vs u hF hm hb hd K' hK' => ?sp3) (AllFrom.cons (fun x vs u hF hm hb hd K' hK' => ?sp4) (AllFrom.cons (fun x vs u hF hm hb hd K' hK' => ?sp5) (AllFrom.cons (fun x vs u hF hm hb hd K' hK' => ?sp6) (AllFrom.cons (fun x vs u hF hm hb hd K' hK' => ?sp7) (AllFrom.cons (fun x vs u hF hm hb hd K' hK' => ?sp8) (AllFrom.cons (fun x vs u hF hm hb hd K' hK' => ?sp9) (AllFrom.cons (fun x vs u hF hm hb hd K' hK' => ?sp10) (AllFrom.cons (fun x vs u hF hm hb hd K' hK' => ?sp11) (AllFrom.cons (fun x vs u hF hm hb hd K' hK' => ?sp12) (AllFrom.nil)))))))))))))
        case sp0 =>
         have HF := Z_ hF; clear hd hm hb hF; go_simp; exact hK'.out _ _ _ (rfl) trivial ⟨rfl, HF.out⟩
        case sp1 =>
         have HF := Z_ hF; clear hd hm hb hF; go_simp; exact hK'.out _ _ _ (rfl) trivial ⟨rfl, HF.out⟩
        case sp2 =>
         have y0 := hd 1 (by decide) (by kernel_rfl); replace y0 : x 145 = .pointer (some ⟨D, 0, none⟩) := y0; have HF := Z_ hF; clear hd hm hb hF; go_simp; exact hK'.out _ _ _ (by simp only [y0]; rfl) trivial ⟨rfl, HF.out⟩
        case sp3 =>
         have y0 := hd 2 (by decide) (by kernel_rfl); replace y0 : x 146 = .pointer (some ⟨D, 0, none⟩) := y0; have HF := Z_ hF; clear hd hm hb hF; go_simp; exact hK'.out _ _ _ (by simp only [y0]; rfl) trivial ⟨rfl, HF.out⟩
        case sp4 =>
         have y0 := hd 3 (by decide) (by kernel_rfl); replace y0 : x 147 = .pointer (some ⟨D, 0, none⟩) := y0; have HF := Z_ hF; clear hd hm hb hF; go_simp; exact hK'.out _ _ _ (by simp only [y0]; rfl) trivial ⟨rfl, HF.out⟩
        case sp5 =>
         have hc := (ofp.PushX.B hF (by have := hb 1 _ (by decide) rfl (by kernel_rfl); omega)).1.d.cell; have y0 := hd 4 (by decide) (by kernel_rfl); replace y0 : x 148 = .pointer (some ⟨D, 2, none⟩) := y0; have HF := Z_ hF; clear hd hm hb hF; go_simp; exact hK'.out _ _ _ (by simp only [y0]; rfl) trivial ⟨rfl, HF.out⟩
        case sp6 =>
         have hc := (ofp.PushX.B hF (by have := hb 0 _ (by decide) rfl (by kernel_rfl); omega)).2.1.cell; have HF := Z_ hF; clear hd hm hb hF; go_simp; exact hK'.out _ _ _ (rfl) trivial ⟨rfl, HF.out⟩
        case sp7 =>
         obtain rfl := List.eq_nil_of_length_eq_zero (hm 0 (by kernel_rfl)); have y0 := hd 6 (by decide) (by kernel_rfl); replace y0 : x 150 = .agg #[.string t, .bool b1, .slice pa PR.length pc, .int .i64 m2, .bool b4, .int .i64 m8] := y0; have hBB := hF.1; have HG := Z_ (ofp.growx_own (hBB.1.rows.gp)); have HF := Z_ hF; clear hd hm hb hF hBB; go_simp; exact hK'.out _ _ _ (by simp only [y0]; rfl) trivial (ofp.pushx_slice ofp.proc_keeps (fun u' hE => ⟨HF.out.1.1.extend hE, HF.out.1.2.1.ext hE, HF.out.1.2.2.ext hE⟩) (fun i e => (HG.out i e).2) HF.out rfl)
        case sp8 =>
         obtain ⟨v0, rfl⟩ : ∃ v0, vs = [v0] := by match vs, hm 1 (by kernel_rfl) with | [v0], _ => exact ⟨_, rfl⟩
         have y0 := hd 5 (by decide) (by kernel_rfl); replace y0 : x 149 = .slice ra ps.length rc := y0; have y1 := hd 7 (by decide) (by kernel_rfl) 151 (by kernel_rfl); replace y1 : x 151 = v0 := y1; have hF2 := hF; obtain ⟨hBB, hxx, gg, rfl, hgb, hgr⟩ := hF2; obtain ⟨us, hu1, ho, hu3⟩ := (hBB.1.rows.gp).ex; obtain ⟨i0_, hi_, hz0, hz1, hz2⟩ := synw.info_split ofp.info_proc; have hbz : B ≤ u.heap.size := by exact hBB.1.hu
         refine wp_append_lies _ _ _ 35 rfl (B) 68 i0_ (.agg #[.string ⟨#[]⟩, .bool false, .slice none 0 0, .int .i64 0, .bool false, .int .i64 0]) 6 72 Tryz.underlying35 hi_ hz0 hz1 hz2 rfl (by decide) (.slice ra ps.length rc) ps.length (us.flatMap fun u => u.cells.toList) y0 ho ⟨gg, 0, none⟩ 1 1 [.string t, .bool b1, .slice pa PR.length pc, .int .i64 m2, .bool b4, .int .i64 m8] y1 rfl ?_ (by intro z_ hz_; simp only [List.mem_cons, List.not_mem_nil, or_false] at hz_; rcases hz_ with rfl | rfl | rfl | rfl | rfl | rfl <;> rfl) (by decide) (by unfold maxLen; omega) (by omega) hbz u.heap.size rfl ?_
         ·intro j q hj; have e : (⟨gg, 0, none⟩ : Addr).add j = ⟨gg, j, none⟩ := (by unfold Addr.add; split <;> simp_all); rw [e, hgb.cell]; simpa [Value.cells] using hj
         ·intro g9 c9 w9 ho9 hg9 ha9 hl9
          exact hK'.out _ _ _ rfl trivial (ofp.pushx_append ofp.proc_keeps hF hu1 hu3 rfl (fun r acc1 hG hC ha => ⟨hBB.1.turn hC (fun i e => (growx_own hBB.1.rows.gp i e).1) (hBB.1.rows.pushP hG hC ha), hBB.2.1.chg hC hRP, hBB.2.2.trans hC (fun i _ e => .inr (.inr (.inr e)))⟩) ho9 hg9 ha9)
        case sp9 =>
         have y0 := hd 0 (by decide) (by kernel_rfl); replace y0 : x 144 = .pointer (some ⟨D, 0, none⟩) := y0; have HF := Z_ hF; clear hd hm hb hF; go_simp; exact hK'.out _ _ _ (by simp only [y0]; rfl) trivial ⟨rfl, HF.out⟩
        case sp10 =>
         have y0 := hd 9 (by decide) (by kernel_rfl); replace y0 : x 153 = .pointer (some ⟨D, 0, none⟩) := y0; have HF := Z_ hF; clear hd hm hb hF; go_simp; exact hK'.out _ _ _ (by simp only [y0]; rfl) trivial ⟨rfl, HF.out⟩
        case sp11 =>
         have y0 := hd 10 (by decide) (by kernel_rfl); replace y0 : x 154 = .pointer (some ⟨D, 0, none⟩) := y0; have HF := Z_ hF; clear hd hm hb hF; go_simp; exact hK'.out _ _ _ (by simp only [y0]; rfl) trivial ⟨rfl, HF.out⟩
        case sp12 =>
         obtain ⟨v0, v1, rfl⟩ : ∃ v0 v1, vs = [v0, v1] := by match vs, hm 2 (by kernel_rfl) with | [v0, v1], _ => exact ⟨_, _, rfl⟩
         have y0 := hd 11 (by decide) (by kernel_rfl); replace y0 : x 155 = .pointer (some ⟨D, 2, none⟩) := y0; have y1 := hd 8 (by decide) (by kernel_rfl) 152 (by kernel_rfl); replace y1 : x 152 = v1 := y1; have hF2 := hF; obtain ⟨hBB, gg, cc, rfl⟩ := hF2; have hc := hBB.1.d.cell 2; have hf := hBB.1.d.frozen 2; have hl := hBB.1.d.lt; simp at hc
         have HF := Z_ hF; clear hd hm hb hF hBB; go_simp; exact hK'.out _ _ undef (by simp only [y0, y1]; rfl) trivial (ofp.pushx_store (z := undef) HF.out (fun h => ⟨h.1.putP, h.2.1.setOther (p := ⟨D, 2, none⟩) (by have := h.1.dDB; have := HBV.out; show Pb ≠ D; omega) _, h.2.2.setCell (fun _ => .inl rfl) _⟩))
       case finp =>
        intro x9 vs9 w9 hl hF hk9; obtain ⟨v0, v1, v2, rfl⟩ : ∃ v0 v1 v2, vs9 = [v0, v1, v2] := by match vs9, hl with | [v0, v1, v2], _ => exact ⟨_, _, _, rfl⟩
        clear hk9 hl; have HD9 := Z_ (show DS _ _ _ _ _ _ _ _ _ _ _ _ _ _ _ _ _ _ _ _ _ _ from hF.1); have HC9 := Z_ (show Chg _ _ _ from hF.2.2); clear hF; go_wp2_with fail
        go_end0
        exact ⟨fun _ => ⟨rfl, _, _, by rw [if_neg (by rw [HIV.out]; exact Bool.false_ne_true), if_neg (by rw [HIV.out]; exact Bool.false_ne_true), HPO.out, show x.tx = t by rw [← HXE.out]; rfl]; exact HD9.out, HC9.out⟩, fun h => absurd (by rw [HT3.out]) h⟩
end ofdec
end Go.Proofs.YtpcihajmcejliacGreatDoor
