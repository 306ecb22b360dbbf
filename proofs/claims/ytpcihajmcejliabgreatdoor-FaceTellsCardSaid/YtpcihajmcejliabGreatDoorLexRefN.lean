/- The walks of the reference's Face and Imports. The walk of the reference's Imports. The reference's Same. The walk of the reference's sign. The walk of the reference's numeral. -/
import Derived.Deep.RegionHeld3
import Derived.Test.YtpcihajmcejliabGreatDoorOfS
import Derived.Test.YtpcihajmcejliabGreatDoorOfL
import Derived.Test.YtpcihajmcejliabGreatDoorOfW
import Derived.Test.YtpcihajmcejliabGreatDoorNameMath
namespace Go.Proofs.YtpcihajmcejliabGreatDoor
open Go.RowKit
namespace off
open synw ofp
theorem openV_take (all : Bool) {l : List Nd} {q : Nat} (h : q < l.length) : openV all (l.take (q + 1)) = openV all (l.take q) ++ (if isVar l[q] = true ∧ (all || (varOf l[q]).pub) = true then [varOf l[q]] else []) := by
 rw [List.take_succ_eq_append_getElem h]; simp only [openV, varsF, List.filter_append, List.map_append]; congr 1
 cases hv : isVar l[q] <;> simp [List.filter, hv]
 cases ha : (all || (varOf l[q]).pub) <;> simp_all
theorem openP_take (all : Bool) {l : List Nd} {q : Nat} (h : q < l.length) : openP all (l.take (q + 1)) = openP all (l.take q) ++ (if isProc l[q] = true ∧ (all || (procOf l[q]).pub) = true then [procOf l[q]] else []) := by
 rw [List.take_succ_eq_append_getElem h]; simp only [openP, procsF, List.filter_append, List.map_append]; congr 1
 cases hv : isProc l[q] <;> simp [List.filter, hv]
 cases ha : (all || (procOf l[q]).pub) <;> simp_all
theorem openV_len (all : Bool) (l : List Nd) (q : Nat) : (openV all (l.take q)).length ≤ q := by
 have h1 := List.length_filter_le (fun v : FVar => all || v.pub) (varsF (l.take q)); have h2 : (varsF (l.take q)).length ≤ (l.take q).length := by rw [varsF, List.length_map]; exact List.length_filter_le _ _
 have h3 := List.length_take_le q l; unfold openV; omega
theorem openP_len (all : Bool) (l : List Nd) (q : Nat) : (openP all (l.take q)).length ≤ q := by
 have h1 := List.length_filter_le (fun v : FProc => all || v.pub) (procsF (l.take q)); have h2 : (procsF (l.take q)).length ≤ (l.take q).length := by rw [procsF, List.length_map]; exact List.length_filter_le _ _
 have h3 := List.length_take_le q l; unfold openP; omega
structure FA (w u : World) (P Fb B : Nat) (nc : Array Value) (t : ByteArray) (rvN rpN rv rp : Value) (vs : List FVar) (ps : List FProc) : Prop where
 ext : Ext w u
 nd : Blk u P nc 66
 res : Blk u (P + 1) #[.string ⟨#[]⟩, .slice none 0 0, .slice none 0 0] 52
 fb : Blk u Fb #[.string t, rvN, rpN] 52
 two : Two B u rv rp vs ps
 hw : w.heap.size ≤ P
 hF : P + 1 < Fb
 hB : Fb < B
 hu : B ≤ u.heap.size
theorem FA.extend {w u u' : World} {P Fb B : Nat} {nc : Array Value} {t : ByteArray} {rvN rpN rv rp : Value} {vs : List FVar} {ps : List FProc} (h : FA w u P Fb B nc t rvN rpN rv rp vs ps) (hE : Ext u u') : FA w u' P Fb B nc t rvN rpN rv rp vs ps :=
 ⟨h.ext.ext hE, h.nd.ext hE, h.res.ext hE, h.fb.ext hE, h.two.ext hE, h.hw, h.hF, h.hB, Nat.le_trans h.hu hE.size⟩
theorem FA.turn {w u u' : World} {P Fb B : Nat} {nc : Array Value} {t : ByteArray} {rvN rpN rv rp rv2 rp2 : Value} {vs vs2 : List FVar} {ps ps2 : List FProc} (h : FA w u P Fb B nc t rvN rpN rv rp vs ps) {S : Nat → Prop} (hC : Chg S u u') (hS : ∀ i, S i → B ≤ i) (h2 : Two B u' rv2 rp2 vs2 ps2) : FA w u' P Fb B nc t rvN rpN rv2 rp2 vs2 ps2 := by
 have h3 := h.hw; have h4 := h.hF; have h5 := h.hB; have h6 := h.hu
 exact ⟨h.ext.trans hC (fun i hi e => by have := hS i e; omega), h.nd.chg hC (fun e => by have := hS _ e; omega), h.res.chg hC (fun e => by have := hS _ e; omega), h.fb.chg hC (fun e => by have := hS _ e; omega), h2, h3, h4, h5, Nat.le_trans h6 hC.size⟩
theorem FA.putV {w u : World} {P Fb B : Nat} {nc : Array Value} {t : ByteArray} {rvN rpN rv rp : Value} {vs : List FVar} {ps : List FProc} (h : FA w u P Fb B nc t rvN rpN rv rp vs ps) : FA w (u.setCell ⟨Fb, 1, none⟩ rv) P Fb B nc t rv rpN rv rp vs ps := by
 have h3 := h.hw; have h4 := h.hF; have h5 := h.hB; have h6 := h.hu
 have hC := chg_set (S := Fb) (Chg.refl _ u) 1 rv; exact ⟨h.ext.trans hC (fun i hi e => by omega), h.nd.chg hC (by omega), h.res.chg hC (by omega), by have := h.fb.set 1 rv; exact this, h.two.chg hC (fun i e => by omega), h3, h4, h5, Nat.le_trans h6 hC.size⟩
theorem FA.putP {w u : World} {P Fb B : Nat} {nc : Array Value} {t : ByteArray} {rvN rpN rv rp : Value} {vs : List FVar} {ps : List FProc} (h : FA w u P Fb B nc t rvN rpN rv rp vs ps) : FA w (u.setCell ⟨Fb, 2, none⟩ rp) P Fb B nc t rvN rp rv rp vs ps := by
 have h3 := h.hw; have h4 := h.hF; have h5 := h.hB; have h6 := h.hu
 have hC := chg_set (S := Fb) (Chg.refl _ u) 2 rp; exact ⟨h.ext.trans hC (fun i hi e => by omega), h.nd.chg hC (by omega), h.res.chg hC (by omega), by have := h.fb.set 2 rp; exact this, h.two.chg hC (fun i e => by omega), h3, h4, h5, Nat.le_trans h6 hC.size⟩
set_option maxRecDepth 100000 in
set_option maxHeartbeats 8000000 in
theorem rface_any {x : Nd} {v : Value} {w : World} {H : Nat → Bool} (all : Bool) (hx : NdAt (hide H w) x v) (hok : ∀ y ∈ x.kids, DeclOk y) (hsz : szF x ≤ 1000) :
  Calls Tryz.prog 53 #[v, .bool all] w fun e w' => ∃ v', e = .returned v' ∧ FaceAt (hide (below w.heap.size) w') (faceF all x) v' ∧ Ext w w' := by
 obtain ⟨k, t, n, l⟩ := x; rw [ndAt_mk] at hx; obtain ⟨a, cc, rfl, hx1, hx2, hx3, hx4⟩ := hx; have hszl : szL l ≤ 999 := by have h : szL l + 1 ≤ 1000 := hsz; omega
 have hll := ofl.len_le_szL l; obtain ⟨N, hN⟩ : ∃ N, l.length = N := ⟨_, rfl⟩; rw [hN] at hx1 hll ⊢; have hNm : N ≤ 999 := by omega
 have HN := Z_ hN; have HOK := Z_ (show ∀ y ∈ l, DeclOk y from hok); have HSZ := Z_ hszl; have HI := Z_ (fun (u : World) (hE : Ext w u) => hx4.keeps (keeps_chg hE fun i _ e => e.elim) fun b o y => ndIn_keeps (keeps_chg hE fun i _ e => e.elim) b o y); have hE1 := ((Chg.refl (fun _ => False) w).alloc (.cells #[.int .i64 k, .string t, .int .i64 n, .slice a N cc] 66)).alloc (.cells #[.string ⟨#[]⟩, .slice none 0 0, .slice none 0 0] 52); have HP := Z_ ((Blk.made w #[.int .i64 k, .string t, .int .i64 n, .slice a N cc] 66).alloc (.cells #[.string ⟨#[]⟩, .slice none 0 0, .slice none 0 0] 52)); have HR := Z_ (Blk.made2 w (.cells #[.int .i64 k, .string t, .int .i64 n, .slice a N cc] 66) #[.string ⟨#[]⟩, .slice none 0 0, .slice none 0 0] 52); have HE1 := Z_ hE1; obtain ⟨P, hP⟩ : ∃ P, w.heap.size = P := ⟨_, rfl⟩
 rw [hP] at HP HR; clear hx4 hN hok hsz hE1 hszl; go_enter Tryz.func53, Tryz.ntmps53
 go_upto_region 1 with (fail)
 generalize (w.alloc (.cells #[.int .i64 k, .string t, .int .i64 n, .slice a N cc] 66)).alloc (.cells #[.string ⟨#[]⟩, .slice none 0 0, .slice none 0 0] 52) = w1 at *; have hc := HP.out.cell; have hl1 := HR.out.lt; go_upto_region 2 with (fail)
 have hL0 : FA w (w1.alloc (.cells #[.string t, .slice none 0 0, .slice none 0 0] 52)) P w1.heap.size (w1.heap.size + 1) #[.int .i64 k, .string t, .int .i64 n, .slice a N cc] t (.slice none 0 0) (.slice none 0 0) (.slice none 0 0) (.slice none 0 0) [] [] :=
  ⟨HE1.out.alloc _, HP.out.alloc _, HR.out.alloc _, Blk.made _ _ _, Two.nil _ _, by omega, hl1, by omega, by simp⟩
 have HL := Z_ hL0; obtain ⟨Fb, hFb⟩ : ∃ Fb, w1.heap.size = Fb := ⟨_, rfl⟩; rw [hFb] at HL
 try rw [hFb]
 clear hc hL0 HE1 HP HR hl1; generalize w1.alloc (.cells #[.string t, .slice none 0 0, .slice none 0 0] 52) = w2 at *; clear hFb; obtain ⟨B, hB⟩ : ∃ B, Fb + 1 = B := ⟨_, rfl⟩; rw [hB] at HL; have HB := Z_ hB; clear hB; go_wp2_with fail
 go_loopw [6] (fun i wr => ∃ (q : Nat) (rv rp : Value), q ≤ N ∧ i = .int .i64 (q : Nat) ∧ Hid (FA w wr P Fb B #[.int .i64 k, .string t, .int .i64 n, .slice a N cc] t rv rp rv rp (openV all (l.take q)) (openP all (l.take q)))) (fun i _ => N - (intOf i).toNat)
 case atStart => exact ⟨0, _, _, Nat.zero_le _, rfl, HL⟩
 clear HL
 case round =>
  obtain ⟨q, rv, rp, hq, rfl, HL⟩ := hrel; have hc := HL.out.nd.cell; by_cases hlt : q < N
  ·have hqi : (q : Int) < (N : Int) := by omega
   have hqd : decide ((q : Int) < (N : Int)) = true := by simpa using hqi
   have hql : q < l.length := by rw [HN.out]; exact hlt
   obtain ⟨b, o, rfl, hb, u, hu, hus, hcl⟩ := HI.out w (Chg.refl _ _) q hql; rw [hide_size] at hb; have hbl := Nat.lt_of_lt_of_le hb HL.out.ext.size; have hy := HOK.out l[q] (List.getElem_mem hql); have HOV := Z_ (openV_take all hql); have HOP := Z_ (openP_take all hql); have hlv := openV_len all l q; have hlp := openP_len all l q; have hkl : l[q].kids.length ≤ 1000 := by have h1 := ofl.len_le_szL l[q].kids; have h2 := szL_drop hql; have h3 := ofw.szL_le l q; have h4 : szF l[q] = szL l[q].kids + 1 := (by cases l[q]; rfl); have := HSZ.out; omega
   generalize openV all (l.take q) = vs at *; generalize openP all (l.take q) = ps at *; have HU := Z_ hu; generalize l[q] = y at hy HU hu HOV HOP hkl; obtain ⟨k1, t1, n1, l1⟩ := y; rw [ndAt_mk] at hu; obtain ⟨a1, c1, rfl, h11, h12, h13, -⟩ := hu; have q0 : wr.cell? ⟨b, o + q * 4, none⟩ = some (.int .i64 k1) := (HL.out.ext.cell (p := ⟨b, o + q * 4, none⟩) hb id).trans ((keeps_bare H w).2 _ _ ((hcl 0 (by decide)).trans rfl)); have q1 : wr.cell? ⟨b, o + q * 4 + 1, none⟩ = some (.string t1) := (HL.out.ext.cell (p := ⟨b, o + q * 4 + 1, none⟩) hb id).trans ((keeps_bare H w).2 _ _ ((hcl 1 (by decide)).trans rfl)); have q2 : wr.cell? ⟨b, o + q * 4 + 2, none⟩ = some (.int .i64 n1) := (HL.out.ext.cell (p := ⟨b, o + q * 4 + 2, none⟩) hb id).trans ((keeps_bare H w).2 _ _ ((hcl 2 (by decide)).trans rfl)); have q3 : wr.cell? ⟨b, o + q * 4 + 3, none⟩ = some (.slice a1 l1.length c1) := (HL.out.ext.cell (p := ⟨b, o + q * 4 + 3, none⟩) hb id).trans ((keeps_bare H w).2 _ _ ((hcl 3 (by decide)).trans rfl))
   have hkl2 : l1.length ≤ 1000 := hkl; obtain ⟨N1, hN1⟩ : ∃ N1, l1.length = N1 := ⟨_, rfl⟩; rw [hN1] at q3 h11 HU; have HL1 := Z_ (HL.out.extend ((Chg.refl (fun _ => False) wr).alloc (.cells #[.int .i64 k1, .string t1, .int .i64 n1, .slice a1 N1 c1] 66))); have HK := Z_ (Blk.made wr #[.int .i64 k1, .string t1, .int .i64 n1, .slice a1 N1 c1] 66); have HU1 := Z_ (fun (u : World) (hE : Ext w u) => ndAt_keeps (keeps_chg (M := H) hE fun i _ e => e.elim) _ _ HU.out); have HKO := Z_ (fun i e => (grow_own HL.out.two.gv i e).2); have HKP := Z_ (fun i e => (growx_own HL.out.two.gp i e).2); have HBK := Z_ HL.out.hu; obtain ⟨K, hK⟩ : ∃ K, wr.heap.size = K := ⟨_, rfl⟩; rw [hK] at HK HKO HKP HBK; have HKL := Z_ hkl; clear hcl hus HU hN1 hkl hkl2; go_upto_region 6 with (fail)
   clear hc q0 q1 q2 q3 HL
   try rw [hK]
   generalize wr.alloc (.cells #[.int .i64 k1, .string t1, .int .i64 n1, .slice a1 N1 c1] 66) = u1 at *; have hk := HK.out.cell; have hlK := HK.out.lt; rcases hy with h | h | h
   ·have hk2 : k1 = 2 := h.kd
    subst hk2; go_wp2_with fail
    go_roundw
    case rel => exact ⟨q + 1, _, _, by omega, by go_num, by rw [HOV.out, HOP.out]; rw [if_neg (by rintro ⟨h, -⟩; simp [isVar, Nd.kd] at h), if_neg (by rintro ⟨h, -⟩; simp [isProc, Nd.kd] at h), List.append_nil, List.append_nil]; exact HL1⟩
    case measure => simp [intOf]; omega
   ·have hk3 : k1 = 3 := h.kd
    subst hk3; have HC := Z_ (ofw.rvar_any (HU1.out u1 HL1.out.ext) h); have hnm : (varOf (.mk 3 t1 n1 l1)).name = t1 := rfl; have hnp : isProc (.mk 3 t1 n1 l1) = false := by simp [isProc, Nd.kd]
    have hnv : isVar (.mk 3 t1 n1 l1) = true := by simp [isVar, Nd.kd]
    have hov := HOV.out; have hop := HOP.out; rw [hnv] at hov; rw [hnp, if_neg (by rintro ⟨h, -⟩; cases h), List.append_nil] at hop; generalize varOf (.mk 3 t1 n1 l1) = vz at *; obtain ⟨vn, vp, vl, vsz⟩ := vz; have hnm2 : vn = t1 := hnm; subst hnm2; simp only at hov; have HOV := Z_ hov; have HOP := Z_ hop; clear h hnm hnp hnv hov hop; go_wp2_with fail
    refine HC.out.mono ?_
    rintro e w5 ⟨rfl, hE5⟩; have HL6 := Z_ ((HL1.out.extend hE5).extend ((Chg.refl (fun _ => False) w5).alloc (.cells #[.string vn, .bool vp, .int .i64 vl, .int .i64 vsz] 82))); have HV6 := Z_ (Blk.made w5 #[.string vn, .bool vp, .int .i64 vl, .int .i64 vsz] 82); have HK6 := Z_ ((HK.out.ext hE5).alloc (.cells #[.string vn, .bool vp, .int .i64 vl, .int .i64 vsz] 82)); obtain ⟨Vb, hVb⟩ : ∃ Vb, w5.heap.size = Vb := ⟨_, rfl⟩; rw [hVb] at HV6; clear hE5 HC hk HK HL1 HU1; unfold varV; go_upto_region 8 with (fail)
    try rw [hVb]
    generalize w5.alloc (.cells #[.string vn, .bool vp, .int .i64 vl, .int .i64 vsz] 82) = u6 at *; have hv := HV6.out.cell; have hk := HK6.out.cell; cases ha : (all || vp) with
    | false =>
     obtain ⟨rfl, rfl⟩ : all = false ∧ vp = false := by simpa using ha
     clear ha; go_wp2_with fail
     go_roundw
     case rel => exact ⟨q + 1, _, _, by omega, by go_num, by rw [HOV.out, HOP.out]; rw [if_neg (by rintro ⟨-, h⟩; cases h), List.append_nil]; exact HL6⟩
     case measure => simp [intOf]; omega
    | true =>
     have HA := Z_ ha; obtain ⟨ra, rc, hrow, -, -⟩ := grow_slice HL6.out.two.gv; subst hrow; obtain ⟨us, hu1, ho, hu3⟩ := HL6.out.two.gv.ex; have HO := Z_ ho; have HU9 := Z_ (And.intro hu1 hu3); have hfc := HL6.out.fb.cell; have hff := HL6.out.fb.frozen; have hfl := HL6.out.fb.lt; have hub := HL6.out.hu; obtain ⟨i0_, hi_, hz0, hz1, hz2⟩ := info_split info_var; have hgo : (if all = true then true else vp) = true := by cases all <;> simp_all
     clear ho hu1 hu3; have HKN := Z_ (fun (w' : World) (o : Obj) (hgr : (u6.alloc o).grownBy w' (Value.slice ra vs.length rc).ownBlock) (hne : (Value.slice ra vs.length rc).ownBlock ≠ some K) => synr.grown_blk hgr (HK6.out.alloc o) hne); have hKne : (Value.slice ra vs.length rc).ownBlock ≠ some K := fun e => by have := grow_own HL6.out.two.gv K e; have := HKO.out K e; omega
     cases all with
     | true =>
      clear ha hgo; go_upto_region 10 with (at_builtin; refine wpList_append_lies _ rfl _ _ 49 rfl B 82 i0_ (.agg #[.string ⟨#[]⟩, .bool false, .int .i64 0, .int .i64 0]) 4 40 Tryz.underlying49 hi_ hz0 hz1 hz2 rfl (by decide) (.slice ra vs.length rc) vs.length (us.flatMap fun u => u.cells.toList) rfl (HO.out.alloc _) ⟨u6.heap.size, 0, none⟩ 1 1 [.string vn, .bool _, .int .i64 vl, .int .i64 vsz] rfl rfl (by intro j z_ hj; have e : (⟨u6.heap.size, 0, none⟩ : Addr).add j = ⟨u6.heap.size, j, none⟩ := (by unfold Addr.add; split <;> simp_all); rw [e, (Blk.made u6 _ _).cell]; simpa using hj) (by intro z_ hz_; simp only [List.mem_cons, List.not_mem_nil, or_false] at hz_; rcases hz_ with rfl | rfl | rfl | rfl <;> rfl) (by decide) (by unfold maxLen; omega) (by omega) (by simp; omega) (u6.heap.size + 1) (by simp) ?_; intro g c' w7 hown hgrow hat hlt1; have HPU := Z_ (pushedG var_keeps HU9.out.1 HU9.out.2 (x := ⟨vn, _, vl, vsz⟩) (v := .agg #[.string vn, .bool _, .int .i64 vl, .int .i64 vsz]) ⟨rfl, h13⟩ rfl hown hgrow hat); have HL7 := Z_ (HL6.out.turn HPU.out.2 (fun i e => (grow_own HL6.out.two.gv i e).1) (HL6.out.two.pushV HPU.out.1 hgrow hat)); have HK7 := Z_ (HKN.out _ _ hgrow hKne); have q1 := HL7.out.fb.cell; have q1f := HL7.out.fb.frozen; have q1l := HL7.out.fb.lt; clear hown hgrow hat hfc hff hfl hv hk)
      have HL8 := Z_ HL7.out.putV; have hKF : K ≠ Fb := by have := HL7.out.hB; have := HL7.out.hu; have := HBK.out; omega
      have hk := (HK7.out.setOther (p := ⟨Fb, 1, none⟩) hKF (.slice (some ⟨g, 0, none⟩) (vs.length + 1) c')).cell; clear q1 q1f q1l HPU; generalize w7.setCell ⟨Fb, 1, none⟩ (.slice (some ⟨g, 0, none⟩) (vs.length + 1) c') = u8 at *; go_wp2_with fail
      go_roundw
      case rel => exact ⟨q + 1, _, _, by omega, by go_num, by rw [HOV.out, HOP.out]; rw [if_pos (by simp)]; exact HL8⟩
      case measure => simp [intOf]; omega
     | false =>
      obtain rfl : vp = true := by simpa using ha
      clear ha hgo; go_upto_region 10 with (at_builtin; refine wpList_append_lies _ rfl _ _ 49 rfl B 82 i0_ (.agg #[.string ⟨#[]⟩, .bool false, .int .i64 0, .int .i64 0]) 4 40 Tryz.underlying49 hi_ hz0 hz1 hz2 rfl (by decide) (.slice ra vs.length rc) vs.length (us.flatMap fun u => u.cells.toList) rfl (HO.out.alloc _) ⟨u6.heap.size, 0, none⟩ 1 1 [.string vn, .bool _, .int .i64 vl, .int .i64 vsz] rfl rfl (by intro j z_ hj; have e : (⟨u6.heap.size, 0, none⟩ : Addr).add j = ⟨u6.heap.size, j, none⟩ := (by unfold Addr.add; split <;> simp_all); rw [e, (Blk.made u6 _ _).cell]; simpa using hj) (by intro z_ hz_; simp only [List.mem_cons, List.not_mem_nil, or_false] at hz_; rcases hz_ with rfl | rfl | rfl | rfl <;> rfl) (by decide) (by unfold maxLen; omega) (by omega) (by simp; omega) (u6.heap.size + 1) (by simp) ?_; intro g c' w7 hown hgrow hat hlt1; have HPU := Z_ (pushedG var_keeps HU9.out.1 HU9.out.2 (x := ⟨vn, _, vl, vsz⟩) (v := .agg #[.string vn, .bool _, .int .i64 vl, .int .i64 vsz]) ⟨rfl, h13⟩ rfl hown hgrow hat); have HL7 := Z_ (HL6.out.turn HPU.out.2 (fun i e => (grow_own HL6.out.two.gv i e).1) (HL6.out.two.pushV HPU.out.1 hgrow hat)); have HK7 := Z_ (HKN.out _ _ hgrow hKne); have q1 := HL7.out.fb.cell; have q1f := HL7.out.fb.frozen; have q1l := HL7.out.fb.lt; clear hown hgrow hat hfc hff hfl hv hk)
      have HL8 := Z_ HL7.out.putV; have hKF : K ≠ Fb := by have := HL7.out.hB; have := HL7.out.hu; have := HBK.out; omega
      have hk := (HK7.out.setOther (p := ⟨Fb, 1, none⟩) hKF (.slice (some ⟨g, 0, none⟩) (vs.length + 1) c')).cell; clear q1 q1f q1l HPU; generalize w7.setCell ⟨Fb, 1, none⟩ (.slice (some ⟨g, 0, none⟩) (vs.length + 1) c') = u8 at *; go_wp2_with fail
      go_roundw
      case rel => exact ⟨q + 1, _, _, by omega, by go_num, by rw [HOV.out, HOP.out]; rw [if_pos (by simp)]; exact HL8⟩
      case measure => simp [intOf]; omega
   ·have hk4 : k1 = 4 := h.kd
    subst hk4; have HC := Z_ (ofw.rproc_any (HU1.out u1 HL1.out.ext) h HKL.out); have hnm : (procOf (.mk 4 t1 n1 l1)).name = t1 := rfl; have hnp : isVar (.mk 4 t1 n1 l1) = false := by simp [isVar, Nd.kd]
    have hnv : isProc (.mk 4 t1 n1 l1) = true := by simp [isProc, Nd.kd]
    have hov := HOV.out; have hop := HOP.out; rw [hnv] at hop; rw [hnp, if_neg (by rintro ⟨h, -⟩; cases h), List.append_nil] at hov; generalize procOf (.mk 4 t1 n1 l1) = vz at *; obtain ⟨vn, vp, pl, vw, vg, vi⟩ := vz; have hnm2 : vn = t1 := hnm; subst hnm2; simp only at hop; have HOV := Z_ hov; have HOP := Z_ hop; clear h hnm hnp hnv hov hop; obtain ⟨A, hA⟩ : ∃ A, u1.heap.size = A := ⟨_, rfl⟩; rw [hA] at HC; have hBA : B ≤ A := by have := HL1.out.hu; omega
    have hKA : ∀ i, rp.ownBlock = some i → i < A := fun i e => by have := growx_own HL1.out.two.gp i e; omega
    have hKV : ∀ i, ownB rv i = true → i < A := fun i e => by have := grow_own HL1.out.two.gv i (by simpa [ownB] using e); omega
    have HFR := Z_ (fun (w' : World) => fresh_keeps (w := w') (X := ownB rv) hBA hKA hKV); clear hKA hKV hA; go_wp2_with fail
    refine HC.out.mono ?_
    rintro e w5 ⟨v5, rfl, hv5, hE5⟩; obtain ⟨pa, pc, rfl, hpp⟩ := hv5; have HX5 := Z_ (proc_keeps ⟨vn, vp, pl, vw, vg, vi⟩ _ _ _ (HFR.out w5) (show OProc ⟨vn, vp, pl, vw, vg, vi⟩ (.agg #[.string vn, .bool vp, .slice pa pl.length pc, .int .i64 vw, .bool vg, .int .i64 vi]) _ from ⟨pa, pc, rfl, hpp⟩)); clear hpp; have hE6 := (Chg.refl (fun _ => False) w5).alloc (.cells #[.string vn, .bool vp, .slice pa pl.length pc, .int .i64 vw, .bool vg, .int .i64 vi] 179); have HX6 := Z_ (proc_keeps _ _ _ _ (keeps_chg (M := fun i => rowHid B rp i || ownB rv i) hE6 fun i _ e => e.elim) HX5.out); have HL6 := Z_ ((HL1.out.extend hE5).extend hE6); have HV6 := Z_ (Blk.made w5 #[.string vn, .bool vp, .slice pa pl.length pc, .int .i64 vw, .bool vg, .int .i64 vi] 179); obtain ⟨Vb, hVb⟩ : ∃ Vb, w5.heap.size = Vb := ⟨_, rfl⟩; rw [hVb] at HV6; clear hE5 hE6 HC hk HK HL1 HU1 HX5 HFR
    go_upto_region 12 with (fail)
    try rw [hVb]
    generalize w5.alloc (.cells #[.string vn, .bool vp, .slice pa pl.length pc, .int .i64 vw, .bool vg, .int .i64 vi] 179) = u6 at *; have hv := HV6.out.cell; cases ha : (all || vp) with
    | false =>
     obtain ⟨rfl, rfl⟩ : all = false ∧ vp = false := by simpa using ha
     clear ha; go_wp2_with fail
     go_roundw
     case rel => exact ⟨q + 1, _, _, by omega, by go_num, by rw [HOV.out, HOP.out, if_neg (by rintro ⟨-, h⟩; cases h), List.append_nil]; exact HL6⟩
     case measure => simp [intOf]; omega
    | true =>
     obtain ⟨ra, rc, hrow, -, -⟩ := growx_slice HL6.out.two.gp; subst hrow; obtain ⟨us, hu1, ho, hu3⟩ := HL6.out.two.gp.ex; have HO := Z_ ho; have HU9 := Z_ (And.intro hu1 hu3); have hfc := HL6.out.fb.cell; have hff := HL6.out.fb.frozen; have hfl := HL6.out.fb.lt; have hub := HL6.out.hu; obtain ⟨i0_, hi_, hz0, hz1, hz2⟩ := info_split info_proc; have hgo : (if all = true then true else vp) = true := by cases all <;> simp_all
     have HX9 := HX6; clear ho hu1 hu3 HX6; cases all with
     | true =>
      clear ha hgo; go_wp2_with (at_builtin; refine wpList_append_lies _ rfl _ _ 50 rfl B 179 i0_ (.agg #[.string ⟨#[]⟩, .bool false, .slice none 0 0, .int .i64 0, .bool false, .int .i64 0]) 6 72 Tryz.underlying50 hi_ hz0 hz1 hz2 rfl (by decide) (.slice ra ps.length rc) ps.length (us.flatMap fun u => u.cells.toList) rfl (HO.out.alloc _) ⟨u6.heap.size, 0, none⟩ 1 1 [.string vn, .bool _, .slice pa pl.length pc, .int .i64 vw, .bool vg, .int .i64 vi] rfl rfl (by intro j z_ hj; have e : (⟨u6.heap.size, 0, none⟩ : Addr).add j = ⟨u6.heap.size, j, none⟩ := (by unfold Addr.add; split <;> simp_all); rw [e, (Blk.made u6 _ _).cell]; simpa using hj) (by intro z_ hz_; simp only [List.mem_cons, List.not_mem_nil, or_false] at hz_; rcases hz_ with rfl | rfl | rfl | rfl | rfl | rfl <;> rfl) (by decide) (by unfold maxLen; omega) (by omega) (by simp; omega) (u6.heap.size + 1) (by simp) ?_; intro g c' w7 hown hgrow hat hlt1; have HPU := Z_ (growx_push proc_keeps HU9.out.1 HU9.out.2 HX9.out rfl hown hgrow hat); have HL7 := Z_ (HL6.out.turn HPU.out.2 (fun i e => (growx_own HL6.out.two.gp i e).1) (HL6.out.two.pushP HPU.out.1 hgrow hat)); have q1 := HL7.out.fb.cell; have q1f := HL7.out.fb.frozen; have q1l := HL7.out.fb.lt; clear hown hgrow hat hfc hff hfl hv)
      have HL8 := Z_ HL7.out.putP; clear q1 q1f q1l HPU; go_roundw
      case rel => exact ⟨q + 1, _, _, by omega, by go_num, by rw [HOV.out, HOP.out, if_pos (by simp)]; exact HL8⟩
      case measure => simp [intOf]; omega
     | false =>
      obtain rfl : vp = true := by simpa using ha
      clear ha hgo; go_wp2_with (at_builtin; refine wpList_append_lies _ rfl _ _ 50 rfl B 179 i0_ (.agg #[.string ⟨#[]⟩, .bool false, .slice none 0 0, .int .i64 0, .bool false, .int .i64 0]) 6 72 Tryz.underlying50 hi_ hz0 hz1 hz2 rfl (by decide) (.slice ra ps.length rc) ps.length (us.flatMap fun u => u.cells.toList) rfl (HO.out.alloc _) ⟨u6.heap.size, 0, none⟩ 1 1 [.string vn, .bool _, .slice pa pl.length pc, .int .i64 vw, .bool vg, .int .i64 vi] rfl rfl (by intro j z_ hj; have e : (⟨u6.heap.size, 0, none⟩ : Addr).add j = ⟨u6.heap.size, j, none⟩ := (by unfold Addr.add; split <;> simp_all); rw [e, (Blk.made u6 _ _).cell]; simpa using hj) (by intro z_ hz_; simp only [List.mem_cons, List.not_mem_nil, or_false] at hz_; rcases hz_ with rfl | rfl | rfl | rfl | rfl | rfl <;> rfl) (by decide) (by unfold maxLen; omega) (by omega) (by simp; omega) (u6.heap.size + 1) (by simp) ?_; intro g c' w7 hown hgrow hat hlt1; have HPU := Z_ (growx_push proc_keeps HU9.out.1 HU9.out.2 HX9.out rfl hown hgrow hat); have HL7 := Z_ (HL6.out.turn HPU.out.2 (fun i e => (growx_own HL6.out.two.gp i e).1) (HL6.out.two.pushP HPU.out.1 hgrow hat)); have q1 := HL7.out.fb.cell; have q1f := HL7.out.fb.frozen; have q1l := HL7.out.fb.lt; clear hown hgrow hat hfc hff hfl hv)
      have HL8 := Z_ HL7.out.putP; clear q1 q1f q1l HPU; go_roundw
      case rel => exact ⟨q + 1, _, _, by omega, by go_num, by rw [HOV.out, HOP.out, if_pos (by simp)]; exact HL8⟩
      case measure => simp [intOf]; omega
  ·obtain rfl : q = N := by omega
   have hqd : decide ((q : Int) < (q : Int)) = false := by simp
   have hT : l.take q = l := List.take_of_length_le (by rw [HN.out]; exact Nat.le_refl _); rw [hT] at HL; have hfc := HL.out.fb.cell; have hr := HL.out.res.cell; have hrf := HL.out.res.frozen; have hrl := HL.out.res.lt; obtain ⟨a1, c1, hr1, -, -⟩ := grow_slice HL.out.two.gv; obtain ⟨a2, c2, hr2, -, -⟩ := growx_slice HL.out.two.gp; subst hr1 hr2; go_wp2_with fail
   have hC1 := chg_set (S := P + 1) (Chg.refl _ wr) 0 (.string t); have hC2 := chg_set hC1 1 (.slice a1 (openV all l).length c1); have hC3 := chg_set hC2 2 (.slice a2 (openP all l).length c2); have hF := HL.out.hF; have hFB := HL.out.hB; have hw0 := HL.out.hw; have hface := (HL.out.two.chg hC3 (fun i e => by omega)).face t hx3; have hface2 := faceAt_keeps (ofp.keeps_low (B2 := w.heap.size) (by omega)) hface; have hE9 := HL.out.ext.trans hC3 (fun i hi e => by omega); have HR9 := Z_ (((HL.out.res.set 0 (.string t)).set 1 (.slice a1 (openV all l).length c1)).set 2 (.slice a2 (openP all l).length c2)); refine ends_at rfl rfl rfl HR9.out Tryz.underlying52 rfl (by kernel_rfl) ?_
   simp only [List.setIfInBounds_toArray, List.set_cons_succ, List.set_cons_zero]; exact ⟨_, rfl, hface2, hE9⟩
end off
end Go.Proofs.YtpcihajmcejliabGreatDoor
namespace Go.Proofs.YtpcihajmcejliabGreatDoor
open Go.RowKit
namespace off
open synw ofp
theorem imps_take {l : List Nd} {q : Nat} (h : q < l.length) : impsF (l.take (q + 1)) = impsF (l.take q) ++ (if isImp l[q] = true then [l[q].tx] else []) := by
 rw [List.take_succ_eq_append_getElem h]; simp only [impsF, List.filter_append, List.map_append]; congr 1
 cases hv : isImp l[q] <;> simp [List.filter, hv]
theorem imps_len (l : List Nd) (q : Nat) : (impsF (l.take q)).length ≤ q := by
 have h2 : (impsF (l.take q)).length ≤ (l.take q).length := by rw [impsF, List.length_map]; exact List.length_filter_le _ _
 have h3 := List.length_take_le q l; omega
set_option maxRecDepth 100000 in
set_option maxHeartbeats 8000000 in
theorem rimps_any {x : Nd} {v : Value} {w : World} {H : Nat → Bool} (hx : NdAt (hide H w) x v) (hsz : szF x ≤ 1000) :
  Calls Tryz.prog 52 #[v] w fun e w' => ∃ v', e = .returned v' ∧ RowAt 1 StrIn (impsF x.kids) v' (hide (below w.heap.size) w') ∧ Ext w w' := by
 obtain ⟨k, t, n, l⟩ := x; rw [ndAt_mk] at hx; obtain ⟨a, cc, rfl, hx1, hx2, hx3, hx4⟩ := hx; have hll := ofl.len_le_szL l; have hszl : szL l ≤ 999 := by have h : szL l + 1 ≤ 1000 := hsz; omega
 obtain ⟨N, hN⟩ : ∃ N, l.length = N := ⟨_, rfl⟩; rw [hN] at hx1 hll ⊢; have hNm : N ≤ 999 := by omega
 have HN := Z_ hN; have HI := Z_ (fun (u : World) (hE : Ext w u) => hx4.keeps (keeps_chg hE fun i _ e => e.elim) fun b o y => ndIn_keeps (keeps_chg hE fun i _ e => e.elim) b o y); have HE1 := Z_ ((Chg.refl (fun _ => False) w).alloc (.cells #[.int .i64 k, .string t, .int .i64 n, .slice a N cc] 66)); have HP := Z_ (Blk.made w #[.int .i64 k, .string t, .int .i64 n, .slice a N cc] 66); obtain ⟨P, hP⟩ : ∃ P, w.heap.size = P := ⟨_, rfl⟩; rw [hP] at HP; clear hx4 hN hsz hszl; go_enter Tryz.func52, Tryz.ntmps52
 go_upto_region 1 with (fail)
 have hsz1 : P + 1 ≤ (w.alloc (.cells #[.int .i64 k, .string t, .int .i64 n, .slice a N cc] 66)).heap.size := by simp [hP]
 generalize w.alloc (.cells #[.int .i64 k, .string t, .int .i64 n, .slice a N cc] 66) = w1 at *; obtain ⟨B, hB⟩ : ∃ B, P + 1 = B := ⟨_, rfl⟩; rw [hB] at hsz1; have HB := Z_ hB; clear hB; go_wp2_with fail
 go_loopw [3, 4] (fun r3 i wr => ∃ (q : Nat), q ≤ N ∧ i = .int .i64 (q : Nat) ∧ Hid (Ext w wr) ∧ Hid (Blk wr P #[.int .i64 k, .string t, .int .i64 n, .slice a N cc] 66) ∧ Hid (B ≤ wr.heap.size) ∧ Hid (Grow 1 9 OStr B wr r3 (impsF (l.take q)))) (fun _ i _ => N - (intOf i).toNat)
 case atStart => exact ⟨0, Nat.zero_le _, rfl, HE1, HP, hsz1, Grow.nil _ _ _ _ _⟩
 clear HE1 HP hsz1
 case round =>
  obtain ⟨q, hq, rfl, HE, HP, HS, HG⟩ := hrel; have hc := HP.out.cell; by_cases hlt : q < N
  ·have hqi : (q : Int) < (N : Int) := by omega
   have hqd : decide ((q : Int) < (N : Int)) = true := by simpa using hqi
   have hql : q < l.length := by rw [HN.out]; exact hlt
   obtain ⟨b, o, rfl, hb, u, hu, hus, hcl⟩ := HI.out w (Chg.refl _ _) q hql; rw [hide_size] at hb; have hbl := Nat.lt_of_lt_of_le hb HE.out.size; have HOV := Z_ (imps_take hql); have hlv := imps_len l q; generalize impsF (l.take q) = is at *; generalize l[q] = y at hu HOV; obtain ⟨k1, t1, n1, l1⟩ := y; rw [ndAt_mk] at hu; obtain ⟨a1, c1, rfl, -, -, h13, -⟩ := hu; have q0 : wr.cell? ⟨b, o + q * 4, none⟩ = some (.int .i64 k1) := (HE.out.cell (p := ⟨b, o + q * 4, none⟩) hb id).trans ((keeps_bare H w).2 _ _ ((hcl 0 (by decide)).trans rfl)); have q1 : wr.cell? ⟨b, o + q * 4 + 1, none⟩ = some (.string t1) := (HE.out.cell (p := ⟨b, o + q * 4 + 1, none⟩) hb id).trans ((keeps_bare H w).2 _ _ ((hcl 1 (by decide)).trans rfl)); clear hcl hus; by_cases hk1 : k1 = 2
   ·subst hk1
    obtain ⟨ra, rc, hrow, -, -⟩ := grow_slice HG.out; subst hrow; obtain ⟨us, hu1, ho, hu3⟩ := HG.out.ex; have HO := Z_ ho; have HU9 := Z_ (And.intro hu1 hu3); have hub := HS.out; obtain ⟨i0_, hi_, hz0, hz1, hz2⟩ := info_split info_str; clear ho hu1 hu3; go_wp2_with (at_builtin; refine wpList_append_lies _ rfl _ _ 33 rfl B 9 i0_ (.string ⟨#[]⟩) 1 16 Tryz.underlying33 hi_ hz0 hz1 hz2 rfl (by decide) (.slice ra is.length rc) is.length (us.flatMap fun u => u.cells.toList) rfl (HO.out.alloc _) ⟨wr.heap.size, 0, none⟩ 1 1 [.string t1] rfl rfl (by intro j z_ hj; have e : (⟨wr.heap.size, 0, none⟩ : Addr).add j = ⟨wr.heap.size, j, none⟩ := (by unfold Addr.add; split <;> simp_all); rw [e, (Blk.made wr _ _).cell]; simpa using hj) (by intro z_ hz_; simp only [List.mem_cons, List.not_mem_nil, or_false] at hz_; subst hz_; rfl) (by decide) (by unfold maxLen; omega) (by omega) (by simp; omega) (wr.heap.size + 1) (by simp) ?_; intro g c' w4 hown hgrow hat hlt1; have HPU := Z_ (pushedG str_keeps HU9.out.1 HU9.out.2 (x := t1) (v := .string t1) ⟨rfl, h13⟩ rfl hown hgrow hat); clear hown hgrow hat)
    have hgo := grow_own HG.out; have hw0 := HB.out; have HE4 := Z_ (HE.out.trans HPU.out.2 (fun i hi e => by have := hgo i e; omega)); have HP4 := Z_ (HP.out.chg HPU.out.2 (fun e => by have := hgo P e; omega)); have HS4 := Z_ (Nat.le_trans HS.out HPU.out.2.size); clear hgo hw0 hc q0 q1; go_wp2_with fail
    go_roundw
    case rel => exact ⟨q + 1, by omega, by go_num, HE4, HP4, HS4, by rw [HOV.out, if_pos (by simp [isImp, Nd.kd])]; exact HPU.out.1⟩
    case measure => simp [intOf]; omega
   ·have hk2 : (k1 == 2) = false := by simpa using hk1
    go_wp2_with fail
    go_roundw
    case rel => exact ⟨q + 1, by omega, by go_num, HE, HP, HS, by rw [HOV.out, if_neg (by simp [isImp, Nd.kd, hk1]), List.append_nil]; exact HG⟩
    case measure => simp [intOf]; omega
  ·obtain rfl : q = N := by omega
   have hqd : decide ((q : Int) < (q : Int)) = false := by simp
   have hT : l.take q = l := List.take_of_length_le (by rw [HN.out]; exact Nat.le_refl _); rw [hT] at HG; go_wp2_with fail
   go_ret
   obtain ⟨a1, c1, e1, h1, h2, h3⟩ := HG.out.row str_keeps str_lies; have hk9 := ofp.keeps_low (w := wr) (show w.heap.size ≤ B by have := HB.out; omega); exact ⟨_, rfl, ⟨a1, c1, e1, h1, h2, h3.keeps hk9 fun _ _ _ => strIn_keeps hk9⟩, HE.out⟩
end off
end Go.Proofs.YtpcihajmcejliabGreatDoor
namespace Go.Proofs.YtpcihajmcejliabGreatDoor
open Go.RowKit
namespace synr
open synw
set_option maxRecDepth 100000 in
set_option maxHeartbeats 4000000 in
theorem same_any : ∀ (x : Nd) (v1 v2 : Value) (w : World) (H1 H2 : Nat → Bool), NdAt (hide H1 w) x v1 → NdAt (hide H2 w) x v2 →
  Calls Tryz.prog 26 #[v1, v2] w fun e w' => e = .returned (.bool true) ∧ Ext w w' := by
 refine nd_ind fun k t n l ih v1 v2 w H1 H2 hx hy => ?_
 rw [ndAt_mk] at hx hy; obtain ⟨a, cc, rfl, hx1, hx2, hx3, hx4⟩ := hx; obtain ⟨a', cc', rfl, hy1, hy2, hy3, hy4⟩ := hy; obtain ⟨N, hN⟩ : ∃ N, l.length = N := ⟨_, rfl⟩; have hNm : N ≤ 9223372036854775807 := by unfold maxLen at hx2; omega
 have HN := Z_ hN; rw [hN]; have HIH := Z_ ih; have HI := Z_ (fun (u : World) (hE : Ext w u) => hx4.keeps (keeps_chg hE fun i _ e => e.elim) fun b o y => ndIn_keeps (keeps_chg hE fun i _ e => e.elim) b o y); have HJ := Z_ (fun (u : World) (hE : Ext w u) => hy4.keeps (keeps_chg hE fun i _ e => e.elim) fun b o y => ndIn_keeps (keeps_chg hE fun i _ e => e.elim) b o y); have hE1 := ((Chg.refl (fun _ => False) w).alloc (.cells #[.int .i64 k, .string t, .int .i64 n, .slice a N cc] 66)).alloc (.cells #[.int .i64 k, .string t, .int .i64 n, .slice a' N cc'] 66); have HK := Z_ ((Blk.made w #[.int .i64 k, .string t, .int .i64 n, .slice a N cc] 66).alloc (.cells #[.int .i64 k, .string t, .int .i64 n, .slice a' N cc'] 66)); have HL := Z_ (Blk.made2 w (.cells #[.int .i64 k, .string t, .int .i64 n, .slice a N cc] 66) #[.int .i64 k, .string t, .int .i64 n, .slice a' N cc'] 66)
 have HE1 := Z_ hE1; obtain ⟨P, hP⟩ : ∃ P, w.heap.size = P := ⟨_, rfl⟩; rw [hP] at HK HL; have hPP : P ≠ P + 1 := by omega
 have ht : (t.toList == t.toList) = true := by simp
 clear hx4 hy4 hN ih hE1; go_enter Tryz.func26, Tryz.ntmps26
 go_upto_region 1 with (fail)
 generalize (w.alloc (.cells #[.int .i64 k, .string t, .int .i64 n, .slice a N cc] 66)).alloc (.cells #[.int .i64 k, .string t, .int .i64 n, .slice a' N cc'] 66) = w1 at *; have hk := HK.out.cell; have hl := HL.out.cell; go_wp2_with fail
 clear hk hl; go_loopw [5] (fun i wr => ∃ q : Nat, q ≤ N ∧ i = .int .i64 q ∧ Hid (Ext w wr) ∧ Hid (Blk wr P #[.int .i64 k, .string t, .int .i64 n, .slice a N cc] 66) ∧ Hid (Blk wr (P + 1) #[.int .i64 k, .string t, .int .i64 n, .slice a' N cc'] 66)) (fun i _ => N - (intOf i).toNat)
 case atStart => exact ⟨0, Nat.zero_le _, rfl, HE1, HK, HL⟩
 clear HE1 HK HL
 case round =>
  obtain ⟨q, hq, rfl, HE, HK, HL⟩ := hrel; have hk := HK.out.cell; have hl := HL.out.cell; by_cases hlt : q < N
  ·have hql : q < l.length := by rw [HN.out]; exact hlt
   have hqi : (q : Int) < (N : Int) := by omega
   have hqd : decide ((q : Int) < (N : Int)) = true := by simpa using hqi
   obtain ⟨b, o, rfl, hb, u, hu, hus, hcl⟩ := HI.out wr HE.out q hql; obtain ⟨b', o', rfl, hb', u', hu', hus', hcl'⟩ := HJ.out wr HE.out q hql; rw [hide_size] at hb hb'; obtain ⟨k1, t1, n1, a1, l1, c1, rfl⟩ := nd_form hu; obtain ⟨k2, t2, n2, a2, l2, c2, rfl⟩ := nd_form hu'; have p0 : wr.cell? ⟨b, o + q * 4, none⟩ = some (.int .i64 k1) := (keeps_bare H1 wr).2 _ _ ((hcl 0 (by decide)).trans rfl); have p1 : wr.cell? ⟨b, o + q * 4 + 1, none⟩ = some (.string t1) := (keeps_bare H1 wr).2 _ _ ((hcl 1 (by decide)).trans rfl); have p2 : wr.cell? ⟨b, o + q * 4 + 2, none⟩ = some (.int .i64 n1) := (keeps_bare H1 wr).2 _ _ ((hcl 2 (by decide)).trans rfl); have p3 : wr.cell? ⟨b, o + q * 4 + 3, none⟩ = some (.slice a1 l1 c1) := (keeps_bare H1 wr).2 _ _ ((hcl 3 (by decide)).trans rfl); have r0 : wr.cell? ⟨b', o' + q * 4, none⟩ = some (.int .i64 k2) := (keeps_bare H2 wr).2 _ _ ((hcl' 0 (by decide)).trans rfl)
   have r1 : wr.cell? ⟨b', o' + q * 4 + 1, none⟩ = some (.string t2) := (keeps_bare H2 wr).2 _ _ ((hcl' 1 (by decide)).trans rfl); have r2 : wr.cell? ⟨b', o' + q * 4 + 2, none⟩ = some (.int .i64 n2) := (keeps_bare H2 wr).2 _ _ ((hcl' 2 (by decide)).trans rfl); have r3 : wr.cell? ⟨b', o' + q * 4 + 3, none⟩ = some (.slice a2 l2 c2) := (keeps_bare H2 wr).2 _ _ ((hcl' 3 (by decide)).trans rfl); have HC := Z_ (fun (w' : World) (hE : Ext wr w') => HIH.out l[q] (List.getElem_mem hql) _ _ w' H1 H2 (ndAt_keeps (keeps_chg hE fun _ _ h => h.elim) _ _ hu) (ndAt_keeps (keeps_chg hE fun _ _ h => h.elim) _ _ hu')); have k3 : wr.cell? ⟨P, 3, none⟩ = some (.slice (some ⟨b, o, none⟩) N cc) := (hk 3).trans rfl; have l3 : wr.cell? ⟨P + 1, 3, none⟩ = some (.slice (some ⟨b', o', none⟩) N cc') := (hl 3).trans rfl; have hPl := HK.out.lt; have hPl2 := HL.out.lt; have HKE := Z_ (fun (u : World) (hE : Ext wr u) => (⟨hE, (hE.cell (p := ⟨P, 3, none⟩) hPl id).trans k3, (hE.cell (p := ⟨P + 1, 3, none⟩) hPl2 id).trans l3, (hE.cell (p := ⟨b, o + q * 4, none⟩) hb id).trans p0, (hE.cell (p := ⟨b, o + q * 4 + 1, none⟩) hb id).trans p1, (hE.cell (p := ⟨b, o + q * 4 + 2, none⟩) hb id).trans p2, (hE.cell (p := ⟨b, o + q * 4 + 3, none⟩) hb id).trans p3, (hE.cell (p := ⟨b', o' + q * 4, none⟩) hb' id).trans r0, (hE.cell (p := ⟨b', o' + q * 4 + 1, none⟩) hb' id).trans r1, (hE.cell (p := ⟨b', o' + q * 4 + 2, none⟩) hb' id).trans r2, (hE.cell (p := ⟨b', o' + q * 4 + 3, none⟩) hb' id).trans r3⟩ : Ext wr u ∧ u.cell? ⟨P, 3, none⟩ = some (.slice (some ⟨b, o, none⟩) N cc) ∧ u.cell? ⟨P + 1, 3, none⟩ = some (.slice (some ⟨b', o', none⟩) N cc') ∧ u.cell? ⟨b, o + q * 4, none⟩ = some (.int .i64 k1) ∧ u.cell? ⟨b, o + q * 4 + 1, none⟩ = some (.string t1) ∧ u.cell? ⟨b, o + q * 4 + 2, none⟩ = some (.int .i64 n1) ∧ u.cell? ⟨b, o + q * 4 + 3, none⟩ = some (.slice a1 l1 c1) ∧ u.cell? ⟨b', o' + q * 4, none⟩ = some (.int .i64 k2) ∧ u.cell? ⟨b', o' + q * 4 + 1, none⟩ = some (.string t2) ∧ u.cell? ⟨b', o' + q * 4 + 2, none⟩ = some (.int .i64 n2) ∧ u.cell? ⟨b', o' + q * 4 + 3, none⟩ = some (.slice a2 l2 c2)))
   clear hu hu' hcl hcl' hus hus'; go_wp2_with fail
   go_region_held3 (fun u => Ext wr u ∧ u.cell? ⟨P, 3, none⟩ = some (.slice (some ⟨b, o, none⟩) N cc) ∧ u.cell? ⟨P + 1, 3, none⟩ = some (.slice (some ⟨b', o', none⟩) N cc') ∧ u.cell? ⟨b, o + q * 4, none⟩ = some (.int .i64 k1) ∧ u.cell? ⟨b, o + q * 4 + 1, none⟩ = some (.string t1) ∧ u.cell? ⟨b, o + q * 4 + 2, none⟩ = some (.int .i64 n1) ∧ u.cell? ⟨b, o + q * 4 + 3, none⟩ = some (.slice a1 l1 c1) ∧ u.cell? ⟨b', o' + q * 4, none⟩ = some (.int .i64 k2) ∧ u.cell? ⟨b', o' + q * 4 + 1, none⟩ = some (.string t2) ∧ u.cell? ⟨b', o' + q * 4 + 2, none⟩ = some (.int .i64 n2) ∧ u.cell? ⟨b', o' + q * 4 + 3, none⟩ = some (.slice a2 l2 c2))
    (first | exact HKE.out _ (Chg.refl _ _) | exact HKE.out _ ((Chg.refl _ _).drew) | exact HKE.out _ (by assumption))
    ((go_at_call 26; refine (HC.out _ (by first | exact Chg.refl _ _ | exact (Chg.refl _ _).drew)).mono ?_; rintro e w' ⟨rfl, hE2⟩; have hE3 : Ext wr w' := (Chg.refl _ wr).drew.ext hE2))
   rename_i hH
   clear hH; have HE9 := Z_ (HE.out.ext hE3); have HK9 := Z_ (HK.out.ext hE3); have HL9 := Z_ (HL.out.ext hE3); clear hE2 hE3 HE HK HL hk hl HKE HC p0 p1 p2 p3 r0 r1 r2 r3 k3 l3; go_wp2_with fail
   go_roundw
   case rel => exact ⟨q + 1, by omega, by go_num, HE9, HK9, HL9⟩
   case measure => simp [intOf]; omega
  ·obtain rfl : q = N := by omega
   have hqd : decide ((q : Int) < (q : Int)) = false := by simp
   go_wp2_with fail
   go_ret
   exact ⟨rfl, HE.out⟩
end synr
end Go.Proofs.YtpcihajmcejliabGreatDoor
namespace Go.Proofs.YtpcihajmcejliabGreatDoor
open Go.RowKit
def signL : List (List UInt8) := [[61, 61], [123], [125], [40], [41], [91], [93], [59], [44], [46], [61], [60], [43], [45], [42], [47], [37], [38], [124], [33]]
namespace rlex
theorem sign_none (l : List UInt8) (h : ∀ x ∈ signL, Lib.hasPrefix l x = false) : signN l = 0 := by
 have h1 : Lib.hasPrefix l [61, 61] = false := h [61, 61] (by decide); unfold signN; rw [if_neg (by rw [h1]; simp)]; cases l with
 | nil => rfl
 | cons c r =>
  show (if signsL.contains c then 1 else 0) = 0
  rw [if_neg]; intro hc; have key : ∀ c ∈ signsL, [c] ∈ signL := by decide
  have := h _ (key c (by simpa using hc)); simp [Lib.hasPrefix] at this
theorem sign_one (l : List UInt8) (k : Nat) (hk : k < signL.length) (h : ∀ j (hj : j < signL.length), j < k → Lib.hasPrefix l signL[j] = false) (hm : Lib.hasPrefix l signL[k] = true) : signN l = signL[k].length := by
 unfold signN; by_cases h0 : k = 0
 ·subst h0
  have hm : Lib.hasPrefix l [61, 61] = true := hm; rw [if_pos hm]; rfl
 ·have h1 : Lib.hasPrefix l [61, 61] = false := h 0 (by decide) (by omega)
  rw [if_neg (by rw [h1]; simp)]; have key : ∀ x ∈ signL.tail, x.length = 1 ∧ ∀ c ∈ x, c ∈ signsL := by decide
  have hmem : signL[k] ∈ signL.tail := by
   rw [List.mem_iff_getElem]; refine ⟨k - 1, by simp; omega, ?_⟩
   rw [List.getElem_tail]; congr 1
   omega
  obtain ⟨h2, h3⟩ := key _ hmem; rw [h2]; obtain ⟨c, he⟩ := List.length_eq_one_iff.1 h2; rw [he] at hm h3; cases l with
  | nil => simp [Lib.hasPrefix] at hm
  | cons d r =>
   have : c = d := by simpa [Lib.hasPrefix] using hm
   subst this; show (if signsL.contains c then 1 else 0) = 1
   rw [if_pos (by simpa using h3 c (by simp))]
theorem prefix_extract (s : ByteArray) (x : List UInt8) (k : Nat) (hx : x ≠ []) : Lib.hasPrefix (s.data.toList.drop k) x = (decide (k + x.length ≤ s.size) && ((s.extract k (k + x.length)).data.toList == x)) := by
 rw [lex.extract_list, Bool.eq_iff_iff]; simp only [Lib.hasPrefix, List.isPrefixOf_iff_prefix, Bool.and_eq_true, decide_eq_true_eq, beq_iff_eq]; have e2 : s.data.toList.length = s.size := by rw [Array.length_toList]; rfl
 have e3 : 0 < x.length := List.length_pos_iff.2 hx; constructor
 ·intro h
  have := h.length_le; rw [List.length_drop] at this; exact ⟨by omega, (List.prefix_iff_eq_take.1 h).symm⟩
 ·rintro ⟨h, h2⟩
  rw [← h2]; exact List.take_prefix _ _
set_option maxRecDepth 100000 in
set_option maxHeartbeats 1000000 in
theorem sign_any (s : ByteArray) (k : Nat) (w : World) (hs : s.size ≤ 100000) (hk : k ≤ s.size) (T : Nat) (hT : Hid (signN (s.data.toList.drop k) = T)) :
  Calls Tryz.prog 157 #[.string s, .int .i64 k] w fun e w' => ∃ t : ByteArray, e = .returned (.string t) ∧ t.size = T ∧ Ext w w' := by
 go_enter Tryz.func157, Tryz.ntmps157
 go_wp2_with fail
 have hB : Blk (w.alloc (.cells (signL.map fun l => Value.string ⟨l.toArray⟩).toArray 9)) w.heap.size (signL.map fun l => Value.string ⟨l.toArray⟩).toArray 9 := Blk.made _ _ _; have hE : Ext w (w.alloc (.cells (signL.map fun l => Value.string ⟨l.toArray⟩).toArray 9)) := (Chg.refl _ w).alloc _; have hF : w.alloc (.cells (signL.map fun l => Value.string ⟨l.toArray⟩).toArray 9) = w.alloc (.cells #[.string ⟨#[61, 61]⟩, .string ⟨#[123]⟩, .string ⟨#[125]⟩, .string ⟨#[40]⟩, .string ⟨#[41]⟩, .string ⟨#[91]⟩, .string ⟨#[93]⟩, .string ⟨#[59]⟩, .string ⟨#[44]⟩, .string ⟨#[46]⟩, .string ⟨#[61]⟩, .string ⟨#[60]⟩, .string ⟨#[43]⟩, .string ⟨#[45]⟩, .string ⟨#[42]⟩, .string ⟨#[47]⟩, .string ⟨#[37]⟩, .string ⟨#[38]⟩, .string ⟨#[124]⟩, .string ⟨#[33]⟩] 9) := rfl; rw [← hF]; clear hF; generalize w.alloc (.cells (signL.map fun l => Value.string ⟨l.toArray⟩).toArray 9) = w1 at *
 have hcell : ∀ j (hj : j < signL.length), w1.cell? ⟨w.heap.size, j, none⟩ = some (.string ⟨signL[j].toArray⟩) := by
  intro j hj; rw [hB.cell]; simp [hj]
 clear hB; have hlen : signL.length = 20 := rfl; have HC := Z_ hcell; have hne : ∀ x ∈ signL, x ≠ [] ∧ x.length ≤ 2 := by decide
 have HNE := Z_ hne; have HSO := Z_ (sign_one (s.data.toList.drop k)); have HNO := Z_ (sign_none (s.data.toList.drop k)); clear hcell hne; generalize signL = L at *; have HL := Z_ hlen; clear hlen; generalize w.heap.size = b at *; go_loopw [6] (fun i wr => ∃ j : Nat, j ≤ 20 ∧ i = .int .i64 j ∧ (∃ n, wr = w1.drewN n) ∧ Hid (∀ i (hi : i < L.length), i < j → Lib.hasPrefix (s.data.toList.drop k) L[i] = false)) (fun i _ => 20 - (intOf i).toNat)
 case atStart => exact ⟨0, by omega, rfl, ⟨0, rfl⟩, fun i hi h => by omega⟩
 case round =>
  obtain ⟨j, hj, rfl, ⟨m, rfl⟩, hrel⟩ := hrel; by_cases hlt : j < 20
  ·have hji : (j : Int) < 20 := by omega
   have hjl : j < L.length := by rw [HL.out]; exact hlt
   have hc := HC.out j hjl; have hn := HNE.out _ (List.getElem_mem hjl); have hpe := prefix_extract s L[j] k hn.1; have hso := HSO.out j hjl hrel.out; obtain ⟨x, hx⟩ : ∃ x, L[j] = x := ⟨_, rfl⟩; rw [hx] at hc hn hpe hso; have HX := Z_ hx; have hsx : (⟨x.toArray⟩ : ByteArray).size = x.length := by show x.toArray.size = _; simp
   clear hx; by_cases hfit : k + x.length ≤ s.size
   ·obtain ⟨E, hE⟩ : ∃ E, ((s.extract k (k + x.length)).data.toList == x) = E := ⟨_, rfl⟩
    rw [hE] at hpe; have hpe2 : Lib.hasPrefix (s.data.toList.drop k) x = E := by rw [hpe]; simp [hfit]
    have HP := Z_ hpe2; have HSO2 := Z_ hso; clear hpe hpe2 hso; have hEE : ((s.extract k (k + x.length)).toList == x) = E := by rw [ByteArray.toList_eq]; exact hE
    clear hE; obtain ⟨q, hq⟩ : ∃ q, k + x.length = q := ⟨_, rfl⟩; rw [hq] at hEE hfit; have hw : IntKind.i64.wrap ((k : Int) + (x.length : Int)) = (q : Int) := (IntWalk.i64_in _ (by omega)).trans (by omega); have hq1 : (k : Int) ≤ (q : Int) := by omega
    have hq2 : (q : Int) ≤ (s.size : Int) := by omega
    clear hq; cases E
    ·go_wp2_with fail
     go_quiet (fail)
     clear hw; go_wp2_with fail
     go_roundw
     case rel =>
      refine ⟨j + 1, by omega, by go_num, ⟨_, rfl⟩, fun i hi h => ?_⟩
      by_cases e : i = j
      ·subst e; rw [HX.out]; exact HP.out
      ·exact hrel.out i hi (by omega)
     case measure => simp [intOf]; omega
    ·go_wp2_with fail
     go_quiet (fail)
     clear hw; go_wp2_with fail
     go_ret
     exact ⟨_, rfl, by rw [← hT.out, HSO2.out HP.out, hsx], hE.drewN _⟩
   ·have hpf : Lib.hasPrefix (s.data.toList.drop k) x = false := by rw [hpe]; simp [hfit]
    have HP := Z_ hpf; obtain ⟨q, hq⟩ : ∃ q, k + x.length = q := ⟨_, rfl⟩; have hw : IntKind.i64.wrap ((k : Int) + (x.length : Int)) = (q : Int) := (IntWalk.i64_in _ (by omega)).trans (by omega); have hq2 : decide (q ≤ s.size) = false := by simp; omega
    clear hpe hso hpf hq hfit; go_wp2_with fail
    go_quiet (fail)
    clear hw; go_wp2_with fail
    go_roundw
    case rel =>
     refine ⟨j + 1, by omega, by go_num, ⟨_, rfl⟩, fun i hi h => ?_⟩
     by_cases e : i = j
     ·subst e; rw [HX.out]; exact HP.out
     ·exact hrel.out i hi (by omega)
    case measure => simp [intOf]; omega
  ·obtain rfl : j = 20 := by omega
   have h0 : T = 0 := by
    rw [← hT.out]; refine HNO.out fun x hx => ?_
    obtain ⟨i, hi, rfl⟩ := List.getElem_of_mem hx; exact hrel.out i hi (by have := HL.out; omega)
   subst h0; go_wp2_with fail
   go_ret
   exact ⟨_, rfl, rfl, hE.drewN _⟩
end rlex
end Go.Proofs.YtpcihajmcejliabGreatDoor
namespace Go.Proofs.YtpcihajmcejliabGreatDoor
open Go.RowKit
namespace rlex
set_option maxRecDepth 100000 in
set_option maxHeartbeats 1000000 in
theorem numeral_any (s : ByteArray) (w : World) (hs : s.size ≤ 100000) (h0 : 0 < s.size) (T : Int) (hT : Hid (numeralF s.data.toList = T)) :
  Calls Tryz.prog 156 #[.string s] w fun e w' => e = .returned (.int .i64 T) ∧ w = w' := by
 have hsz : s.data.toList.length = s.size := by rw [Array.length_toList]; rfl
 go_enter Tryz.func156, Tryz.ntmps156
 go_wp2_with fail
 go_loop [3] (fun i => ∃ k : Nat, k ≤ s.size ∧ i = .int .i64 k ∧ Hid (digs (s.data.toList.take k) = true)) (fun i => s.size - (intOf i).toNat)
 case atStart => exact ⟨0, Nat.zero_le _, rfl, rfl⟩
 case round =>
  obtain ⟨k, hk, rfl, hrel⟩ := hrel; by_cases hlt : k < s.size
  ·have hd : decide ((k : Int) < (s.size : Int)) = true := by simp; omega
   have ht := digs_take s k hlt; rw [hrel.out, Bool.true_and] at ht; cases hb : digitB s[k].toNat
   ·have cc := digit_any s[k].toNat
    rw [hb] at cc ht; have CC := Z_ cc
    have hf : T = 2 := by
     rw [← hT.out, numeralF, if_pos]; cases hq : digs s.data.toList
     ·rfl
     ·have : digs (s.data.toList.take (k + 1)) = true := by
       simp only [digs, List.all_eq_true] at hq ⊢; exact fun x hx => hq x (List.mem_of_mem_take hx)
      rw [ht] at this; cases this
    have HF := Z_ hf; clear cc hb ht hf; go_wp2_with (go_at_call 155; refine (CC.out _).mono ?_; rintro e w' ⟨rfl, rfl⟩)
    go_ret
    exact ⟨ret_int HF.out.symm, rfl⟩
   ·have cc := digit_any s[k].toNat
    rw [hb] at cc ht; have CC := Z_ cc; have HT := Z_ ht; clear cc hb ht; go_wp2_with (go_at_call 155; refine (CC.out _).mono ?_; rintro e w' ⟨rfl, rfl⟩)
    go_round
    case rel => exact ⟨k + 1, by omega, by go_num, HT.out⟩
    case measure => simp [intOf]; omega
  ·obtain rfl : k = s.size := by omega
   have hd : decide ((s.size : Int) < (s.size : Int)) = false := by simp
   have hdig : digs s.data.toList = true := by
    have := hrel.out; rwa [List.take_of_length_le (by omega)] at this
   have hne : s.data.toList ≠ [] := by intro h; rw [h] at hsz; simp at hsz; omega
   have hh : s.data.toList.head? = some s[0] := by
    rw [List.head?_eq_getElem?, List.getElem?_eq_getElem (by omega)]; rfl
   have hT' := hT.out; rw [numeralF, if_neg (by simp [hdig])] at hT'; clear hrel; by_cases hz : 1 < s.size ∧ (s[0].toNat : Int) = 48
   ·obtain ⟨h1, hz⟩ := hz
    rw [if_pos ⟨by omega, by rw [hh, (u8_int s[0] 48).1 hz]⟩] at hT'; subst hT'; have hb : ((s[0].toNat : Int) == 48) = true := by rw [hz]; rfl
    clear hz hdig; go_wp2_with fail
    go_ret
    exact ⟨rfl, rfl⟩
   ·rw [if_neg (by rw [hh, hsz]; intro h; exact hz ⟨h.1, (u8_int s[0] 48).2 (Option.some.inj h.2)⟩)] at hT'
    have hlow : 1 < s.size → 10 ^ (s.size - 1) ≤ decFrom 0 s.data.toList := by
     intro h1; cases hl : s.data.toList with
     | nil => exact absurd hl hne
     | cons c r =>
      rw [hl] at hh hsz hdig; obtain ⟨hc, _⟩ := (digs_cons c r).1 hdig; have hc0 : c = s[0] := by simpa using hh
      have : 49 ≤ c.toNat := by
       rcases Nat.lt_or_ge c.toNat 49 with h | h
       ·exact absurd ⟨h1, by rw [← hc0]; omega⟩ hz
       ·exact h
      have := decFrom_head c r this; have e : s.size - 1 = r.length := by simp at hsz; omega
      rw [e]; exact this
    have hup := decFrom_lt _ hdig; rw [hsz] at hup
    have hzz : 1 < s.size → ((s[0].toNat : Int) == 48) = false := by
     intro h1; rw [beq_eq_false_iff_ne]; intro h; exact hz ⟨h1, h⟩
    clear hz; by_cases hL : 19 < s.size
    ·have hp : (10 : Nat) ^ 19 ≤ 10 ^ (s.size - 1) := Nat.pow_le_pow_right (by omega) (by omega)
     have hlow := hlow (by omega); have e19 : (10 : Nat) ^ 19 = 10000000000000000000 := by decide
     rw [if_pos (by omega)] at hT'; subst hT'; have hzz := hzz (by omega); clear hp hlow e19 hup hdig hne hh; go_wp2_with fail
     go_ret
     exact ⟨rfl, rfl⟩
    ·by_cases hE : s.size = 19
     ·have hzz := hzz (by omega)
      have hHE := Z_ hE; have hcmp := less_iff s.data.toList mostL (by rw [hsz, hE]; rfl) hdig (by decide); have hcmp2 := less_iff mostL s.data.toList (by rw [hsz, hE]; rfl) (by decide) hdig; have htot := less_total s.data.toList mostL (by rw [hsz, hE]; rfl); rw [most_dec] at hcmp hcmp2; have hlt19 : 18 < s.size := by omega
      obtain ⟨L, hL1⟩ : ∃ L, Op.bytesLess s.data.toList mostL = L := ⟨_, rfl⟩; obtain ⟨E, hE1⟩ : ∃ E, (s.data.toList == mostL) = E := ⟨_, rfl⟩; have l1 : Op.bytesLess s.toList [57, 50, 50, 51, 51, 55, 50, 48, 51, 54, 56, 53, 52, 55, 55, 53, 56, 48, 55] = L := by rw [ByteArray.toList_eq]; exact hL1
      have l2 : (s.toList == [57, 50, 50, 51, 51, 55, 50, 48, 51, 54, 56, 53, 52, 55, 55, 53, 56, 48, 55]) = E := by rw [ByteArray.toList_eq]; exact hE1
      have hTT : T = if (!L && !E) = true then 6 else 0 := by
       rw [← hT']; rw [hL1] at hcmp htot; cases L
       ·cases E
        ·have h3 : Op.bytesLess mostL s.data.toList = true := by
          cases h : Op.bytesLess mostL s.data.toList
          ·have := htot rfl h
           rw [this] at hE1; exact absurd hE1 (by decide)
          ·rfl
         rw [if_pos (by have := hcmp2.1 h3; omega)]; rfl
        ·have : s.data.toList = mostL := by simpa using hE1
         have e := most_dec; rw [← this] at e; rw [if_neg (by omega)]; rfl
       ·rw [if_neg (by have := hcmp.1 rfl; omega)]
        rfl
      have HTT := Z_ hTT; clear hE hup hlow hcmp hcmp2 htot hL1 hE1 hTT hT' hne hh hdig hd; cases L <;> cases E
      all_goals
       go_wp2_with fail
       go_ret
       exact ⟨ret_int HTT.out.symm, rfl⟩
     ·have e18 : (10 : Nat) ^ 18 = 1000000000000000000 := by decide
      have hp : (10 : Nat) ^ s.size ≤ 10 ^ 18 := Nat.pow_le_pow_right (by omega) (by omega); rw [if_neg (by omega)] at hT'; subst hT'; have hl18 : s.size < 19 := by omega
      have hE' : ((s.size : Int) == 19) = false := by rw [beq_eq_false_iff_ne]; omega
      clear e18 hp hup hlow hdig hne hh hL hE; by_cases h1 : 1 < s.size
      ·have hzz := hzz h1
       go_wp2_with fail
       go_ret
       exact ⟨rfl, rfl⟩
      ·clear hzz
       go_wp2_with fail
       go_ret
       exact ⟨rfl, rfl⟩
end rlex
end Go.Proofs.YtpcihajmcejliabGreatDoor
