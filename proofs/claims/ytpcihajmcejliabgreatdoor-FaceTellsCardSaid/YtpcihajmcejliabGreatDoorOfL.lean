/- The walk of the reference's Look: what is wrong first of a module. -/
import Derived.Deep.CutBlock
import Derived.Test.YtpcihajmcejliabGreatDoorOfM
import Derived.Test.YtpcihajmcejliabGreatDoorFacePlc
namespace Go.Proofs.YtpcihajmcejliabGreatDoor
open Go.RowKit
abbrev keyB (x : ByteArray) : List UInt8 := x.data.toList
namespace ofl
open synw ofp
theorem grow_kept {α : Type} {k : Nat} {E : TypeId} {V : α → Value → World → Prop} {B : Nat} {w w' : World} {row : Value} {acc : List α} (h : Grow k E V B w row acc) (hV : ∀ x u w w', V x u w → V x u w') {o : Option Nat} (hg : w.grownBy w' o) (hne : row.ownBlock = none ∨ row.ownBlock ≠ o) : Grow k E V B w' row acc := by
 obtain ⟨us, h1, h2, h3⟩ := h.ex; exact ⟨us, h1, h2.kept hg hne, fun j hj hj' => ⟨hV _ _ _ _ (h3 j hj hj').1, (h3 j hj hj').2⟩⟩
theorem str_any (x : ByteArray) (u : Value) (w w' : World) (h : OStr x u w) : OStr x u w' := h
theorem look_imp {m : ByteArray} {x : Nd} {r : List Nd} {I L : List (List UInt8)} {p : Nat} (hk : x.kd = 2) : lookF m (x :: r) I L p = if I.contains x.key = true then (5, p) else if x.tx = m then (5, p) else if 5 ≤ I.length then (1, p) else lookF m r (I ++ [x.key]) L (p + szF x) := by
 rw [lookF, if_pos hk]
theorem look_oth {m : ByteArray} {x : Nd} {r : List Nd} {I L : List (List UInt8)} {p : Nat} (hk : x.kd ≠ 2) : lookF m (x :: r) I L p = if L.contains x.key = true then (5, p) else if 20 ≤ L.length then (1, p) else if (declF x p).1 = 0 then lookF m r I (L ++ [x.key]) (p + szF x) else declF x p := by
 rw [lookF, if_neg hk]
structure LS (w u : World) (P B : Nat) (nc : Array Value) (ri rn : Value) (imps names : List ByteArray) : Prop where
 ext : Ext w u
 nd : Blk u P nc 66
 res : Blk u (P + 1) #[.int .i64 0, .int .i64 0] 68
 gi : Grow 1 9 OStr B u ri imps
 gn : Grow 1 9 OStr B u rn names
 apart : ∀ i, ri.ownBlock = some i → rn.ownBlock ≠ some i
 hw : w.heap.size ≤ P
 hB : P + 2 ≤ B
 hu : B ≤ u.heap.size
theorem LS.extend {w u u' : World} {P B : Nat} {nc : Array Value} {ri rn : Value} {imps names : List ByteArray} (h : LS w u P B nc ri rn imps names) (hE : Ext u u') : LS w u' P B nc ri rn imps names :=
 ⟨h.ext.ext hE, h.nd.ext hE, h.res.ext hE, h.gi.chg str_keeps hE (fun _ e => e.elim), h.gn.chg str_keeps hE (fun _ e => e.elim), h.apart, h.hw, h.hB, Nat.le_trans h.hu hE.size⟩
theorem LS.pushN {w u w4 : World} {P B : Nat} {nc : Array Value} {ri rn : Value} {imps names : List ByteArray} (h : LS w u P B nc ri rn imps names) {o : Obj} {g c : Nat} {x : ByteArray} (hG : Grow 1 9 OStr B w4 (.slice (some ⟨g, 0, none⟩) (names.length + 1) c) (names ++ [x])) (hg : (u.alloc o).grownBy w4 rn.ownBlock) (ha : rn.ownBlock = some g ∨ g = u.heap.size + 1) : LS w w4 P B nc ri (.slice (some ⟨g, 0, none⟩) (names.length + 1) c) imps (names ++ [x]) := by
 have hC : Chg (fun i => rn.ownBlock = some i) u w4 := (((Chg.refl (fun _ => False) u).alloc o).weak (fun _ _ h => h.elim)).then (grown_own hg)
 have ho := grow_own h.gn; have hoi := grow_own h.gi; have h1 := h.hw; have h2 := h.hB; have h3 := h.hu
 refine ⟨h.ext.trans hC (fun i hi e => by have := ho i e; omega), h.nd.chg hC (fun e => by have := ho _ e; omega), h.res.chg hC (fun e => by have := ho _ e; omega), ?_, hG, ?_, h1, h2, Nat.le_trans h3 hC.size⟩
 ·refine grow_kept (h.gi.chg str_keeps ((Chg.refl (fun _ => False) u).alloc o) (fun _ e => e.elim)) str_any hg ?_
  cases hr : ri.ownBlock with
  | none => exact .inl rfl
  | some i => exact .inr fun e => h.apart i hr e.symm
 ·intro i hi e
  have : g = i := by simpa [Value.ownBlock] using e
  subst this; rcases ha with ha | ha
  ·exact h.apart g hi ha
  ·have := hoi g hi; omega
theorem LS.pushI {w u w4 : World} {P B : Nat} {nc : Array Value} {ri rn : Value} {imps names : List ByteArray} (h : LS w u P B nc ri rn imps names) {o : Obj} {g c : Nat} {x : ByteArray} (hG : Grow 1 9 OStr B w4 (.slice (some ⟨g, 0, none⟩) (imps.length + 1) c) (imps ++ [x])) (hg : (u.alloc o).grownBy w4 ri.ownBlock) (ha : ri.ownBlock = some g ∨ g = u.heap.size + 1) : LS w w4 P B nc (.slice (some ⟨g, 0, none⟩) (imps.length + 1) c) rn (imps ++ [x]) names := by
 have hC : Chg (fun i => ri.ownBlock = some i) u w4 := (((Chg.refl (fun _ => False) u).alloc o).weak (fun _ _ h => h.elim)).then (grown_own hg)
 have ho := grow_own h.gi; have hoi := grow_own h.gn; have h1 := h.hw; have h2 := h.hB; have h3 := h.hu
 refine ⟨h.ext.trans hC (fun i hi e => by have := ho i e; omega), h.nd.chg hC (fun e => by have := ho _ e; omega), h.res.chg hC (fun e => by have := ho _ e; omega), hG, ?_, ?_, h1, h2, Nat.le_trans h3 hC.size⟩
 ·refine grow_kept (h.gn.chg str_keeps ((Chg.refl (fun _ => False) u).alloc o) (fun _ e => e.elim)) str_any hg ?_
  cases hr : rn.ownBlock with
  | none => exact .inl rfl
  | some i => exact .inr fun e => h.apart i e.symm hr
 ·intro i hi e
  have : g = i := by simpa [Value.ownBlock] using hi
  subst this; rcases ha with ha | ha
  ·exact h.apart g ha e
  ·have := hoi g e; omega
theorem words {B : Nat} {u : World} {row : Value} {l : List ByteArray} (h : Grow 1 9 OStr B u row l) : ∃ a c, row = .slice a l.length c ∧ AllIn 1 face.WordIn u a l := by
 obtain ⟨a, c, e, -, -, h3⟩ := h.row str_keeps str_lies
 exact ⟨a, c, e, fun j hj => by
  obtain ⟨b, o, e1, hb, h4⟩ := h3 j hj; rw [hide_size] at hb; exact ⟨b, o, e1, hb, (keeps_bare _ _).2 _ _ h4.1⟩⟩
theorem szF_imp {x : Nd} (h : ImpOk x) : szF x = 1 := by
 obtain ⟨k, t, m, l⟩ := x; have e : l = [] := h.kids; subst e; rfl
theorem len_le_szL (l : List Nd) : l.length ≤ szL l := by
 induction l with
 | nil => exact Nat.le_refl _
 | cons x r ih => have := sz_pos x; simp only [List.length_cons, szL]; omega
set_option maxRecDepth 100000 in
set_option maxHeartbeats 8000000 in
theorem rlook_any {x : Nd} {v : Value} {w : World} {H : Nat → Bool} (hx : NdAt (hide H w) x v) (hok : ∀ y ∈ x.kids, DeclOk y) (hsz : szF x ≤ 1000) :
  Calls Tryz.prog 100 #[v] w fun e w' => e = .returned (.agg #[.int .i64 (lookF x.tx x.kids [] [] 1).1, .int .i64 ((lookF x.tx x.kids [] [] 1).2 : Nat)]) ∧ Ext w w' := by
 obtain ⟨k, t, n, l⟩ := x; rw [ndAt_mk] at hx; obtain ⟨a, cc, rfl, hx1, hx2, hx3, hx4⟩ := hx; obtain ⟨F, hF⟩ : ∃ F, lookF t l [] [] 1 = F := ⟨_, rfl⟩; show Calls _ _ _ _ fun e w' => e = .returned (.agg #[.int .i64 (lookF t l [] [] 1).1, .int .i64 ((lookF t l [] [] 1).2 : Nat)]) ∧ Ext w w'
 rw [hF]; have hszl : szL l ≤ 999 := by have h : szL l + 1 ≤ 1000 := hsz; omega
 obtain ⟨N, hN⟩ : ∃ N, l.length = N := ⟨_, rfl⟩; rw [hN] at hx1 ⊢; have hNm : N ≤ 9223372036854775807 := by unfold maxLen at hx2; omega
 have HN := Z_ hN; have HOK := Z_ (show ∀ y ∈ l, DeclOk y from hok); have HI := Z_ (fun (u : World) (hE : Ext w u) => hx4.keeps (keeps_chg hE fun i _ e => e.elim) fun b o y => ndIn_keeps (keeps_chg hE fun i _ e => e.elim) b o y); have HF := Z_ hF
 have hLS : LS w ((w.alloc (.cells #[.int .i64 k, .string t, .int .i64 n, .slice a N cc] 66)).alloc (.cells #[.int .i64 0, .int .i64 0] 68)) w.heap.size (w.heap.size + 2) #[.int .i64 k, .string t, .int .i64 n, .slice a N cc] (.slice none 0 0) (.slice none 0 0) [] [] :=
  ⟨((Chg.refl _ w).alloc _).alloc _, (Blk.made w _ _).alloc _, Blk.made2 w _ _ _, Grow.nil _ _ _ _ _, Grow.nil _ _ _ _ _, (fun i e => (by cases e)), Nat.le_refl _, Nat.le_refl _, by simp⟩
 have HL := Z_ hLS; obtain ⟨P, hP⟩ : ∃ P, w.heap.size = P := ⟨_, rfl⟩; rw [hP] at HL; obtain ⟨B, hB⟩ : ∃ B, P + 2 = B := ⟨_, rfl⟩; rw [hB] at HL; clear hx4 hN hok hsz hF hLS; go_enter Tryz.func100, Tryz.ntmps100
 go_upto_region 1 with (fail)
 generalize (w.alloc (.cells #[.int .i64 k, .string t, .int .i64 n, .slice a N cc] 66)).alloc (.cells #[.int .i64 0, .int .i64 0] 68) = w1 at *; go_wp2_with fail
 go_loopw [3, 4, 5, 6] (fun r3 r4 p i wr => ∃ (q pn : Nat) (imps names : List ByteArray), q ≤ N ∧ p = .int .i64 (pn : Nat) ∧ i = .int .i64 (q : Nat) ∧ Hid (lookF t (l.drop q) (imps.map keyB) (names.map keyB) pn = F) ∧ Hid (LS w wr P B #[.int .i64 k, .string t, .int .i64 n, .slice a N cc] r3 r4 imps names) ∧ imps.length ≤ 5 ∧ names.length ≤ 20 ∧ Hid (pn + szL (l.drop q) ≤ 1000)) (fun _ _ _ i _ => N - (intOf i).toNat)
 case atStart => exact ⟨0, 1, [], [], Nat.zero_le _, rfl, rfl, HF, HL, by simp, by simp, by show 1 + szL l ≤ 1000; omega⟩
 clear HL HF
 case round =>
  obtain ⟨q, pn, imps, names, hq, rfl, rfl, HT, HL, hil, hnl, HZ⟩ := hrel; have hc := HL.out.nd.cell; by_cases hlt : q < N
  ·have hqi : (q : Int) < (N : Int) := by omega
   have hqd : decide ((q : Int) < (N : Int)) = true := by simpa using hqi
   have hql : q < l.length := by rw [HN.out]; exact hlt
   obtain ⟨b, o, rfl, hb, u, hu, hus, hcl⟩ := HI.out w (Chg.refl _ _) q hql; rw [hide_size] at hb; have hbl := Nat.lt_of_lt_of_le hb HL.out.ext.size; have hy := HOK.out l[q] (List.getElem_mem hql); have hT := HT.out; rw [List.drop_eq_getElem_cons hql] at hT; have hZ := HZ.out; rw [szL_drop hql] at hZ; have HU := Z_ hu; generalize l[q] = y at hy hT hZ HU hu; obtain ⟨k1, t1, n1, l1⟩ := y; rw [ndAt_mk] at hu; obtain ⟨a1, c1, rfl, h11, h12, h13, h14⟩ := hu; have q0 : wr.cell? ⟨b, o + q * 4, none⟩ = some (.int .i64 k1) := (HL.out.ext.cell (p := ⟨b, o + q * 4, none⟩) hb id).trans ((keeps_bare H w).2 _ _ ((hcl 0 (by decide)).trans rfl)); have q1 : wr.cell? ⟨b, o + q * 4 + 1, none⟩ = some (.string t1) := (HL.out.ext.cell (p := ⟨b, o + q * 4 + 1, none⟩) hb id).trans ((keeps_bare H w).2 _ _ ((hcl 1 (by decide)).trans rfl)); have q2 : wr.cell? ⟨b, o + q * 4 + 2, none⟩ = some (.int .i64 n1) := (HL.out.ext.cell (p := ⟨b, o + q * 4 + 2, none⟩) hb id).trans ((keeps_bare H w).2 _ _ ((hcl 2 (by decide)).trans rfl))
   have q3 : wr.cell? ⟨b, o + q * 4 + 3, none⟩ = some (.slice a1 l1.length c1) := (HL.out.ext.cell (p := ⟨b, o + q * 4 + 3, none⟩) hb id).trans ((keeps_bare H w).2 _ _ ((hcl 3 (by decide)).trans rfl)); obtain ⟨N1, hN1⟩ : ∃ N1, l1.length = N1 := ⟨_, rfl⟩; rw [hN1] at q3 h11 HU; have HN1 := Z_ hN1; have HLK := Z_ (HL.out.extend ((Chg.refl (fun _ => False) wr).alloc (.cells #[.int .i64 k1, .string t1, .int .i64 n1, .slice a1 N1 c1] 66))); have HK := Z_ (Blk.made wr #[.int .i64 k1, .string t1, .int .i64 n1, .slice a1 N1 c1] 66); have HI1 := Z_ (fun (u : World) (hE : Ext w u) => h14.keeps (keeps_chg hE fun i _ e => e.elim) fun b o y => ndIn_keeps (keeps_chg hE fun i _ e => e.elim) b o y); have HU1 := Z_ (fun (u : World) (hE : Ext w u) => ndAt_keeps (keeps_chg (M := H) hE fun i _ e => e.elim) _ _ HU.out); have HOWN := Z_ (fun i e => (grow_own HL.out.gn i e).2)
   obtain ⟨K, hK⟩ : ∃ K, wr.heap.size = K := ⟨_, rfl⟩; rw [hK] at HK HOWN; have hBK : B ≤ K := by have := HL.out.hu; omega
   have HZ1 := Z_ hZ; clear hcl hus h14 HU HT HZ hZ hN1; go_upto_region 8 with (fail)
   clear hc q0 q1 q2 q3 HL
   try rw [hK]
   generalize wr.alloc (.cells #[.int .i64 k1, .string t1, .int .i64 n1, .slice a1 N1 c1] 66) = u1 at *; have hk := HK.out.cell; have hc := HLK.out.nd.cell; have hbig : K < u1.heap.size := HK.out.lt; by_cases hki : k1 = 2
   ·subst hki
    have hT2 := hT; rw [look_imp (by rfl)] at hT2
    have himp : ImpOk (.mk 2 t1 n1 l1) := by
     rcases hy with h | h | h
     ·exact h
     ·exact absurd h.kd (by show ¬ (2 : Int) = 3; decide)
     ·exact absurd h.kd (by show ¬ (2 : Int) = 4; decide)
    have hs1 := szF_imp himp; rw [hs1] at hT2 HZ1; have HT := Z_ hT2; clear hT hT2 hy himp hs1; obtain ⟨ai, ci, hri, hwi⟩ := words HLK.out.gi; subst hri; have HP := Z_ (face.place_any ai ci imps t1 u1 hwi (by omega)); obtain ⟨Bq, hBq⟩ : ∃ B, (imps.map fun x => x.data.toList).contains t1.data.toList = B := ⟨_, rfl⟩; rw [hBq] at HP; have HBQ := Z_ hBq; clear hwi hBq; go_wp2_with fail
    refine HP.out.mono ?_
    rintro e w' ⟨⟨kp, rfl, hkp⟩, rfl⟩; cases Bq with
    | true =>
     have hkp2 : 0 ≤ kp := of_decide_eq_true hkp; clear hkp HP; have hT9 := Z_ (show F = (5, pn) from (by have h := HT.out; rw [if_pos (show (List.map keyB imps).contains (Nd.mk 2 t1 n1 l1).key = true from HBQ.out)] at h; exact h.symm)); have hr := HLK.out.res.cell; have hrf := HLK.out.res.frozen; have hrl := HLK.out.res.lt; go_wp2_with fail
     refine ends_at rfl rfl rfl ((HLK.out.res.set 0 _).set 1 _) Tryz.underlying68 rfl (by kernel_rfl) ?_
     exact ⟨by rw [hT9.out]; rfl, HLK.out.ext.trans (chg_set (chg_set (S := P + 1) (Chg.refl _ _) 0 _) 1 _) (fun i hi e => by have := HLK.out.hw; omega)⟩
    | false =>
     have hkp2 : ¬ 0 ≤ kp := of_decide_eq_false hkp; have hT2 := HT.out; rw [if_neg (by rw [show (List.map keyB imps).contains (Nd.mk 2 t1 n1 l1).key = false from HBQ.out]; exact Bool.false_ne_true)] at hT2; have HT := Z_ hT2; clear hT2 HP; by_cases htt : t1 = t
     ·have h3 : (t1.toList == t.toList) = true := by rw [htt]; simp
      have HTT := Z_ htt; clear htt; have hT9 := Z_ (show F = (5, pn) from (by have h := HT.out; rw [if_pos (show (Nd.mk 2 t1 n1 l1).tx = t from HTT.out)] at h; exact h.symm)); have hr := HLK.out.res.cell; have hrf := HLK.out.res.frozen; have hrl := HLK.out.res.lt; go_wp2_with fail
      refine ends_at rfl rfl rfl ((HLK.out.res.set 0 _).set 1 _) Tryz.underlying68 rfl (by kernel_rfl) ?_
      exact ⟨by rw [hT9.out]; rfl, HLK.out.ext.trans (chg_set (chg_set (S := P + 1) (Chg.refl _ _) 0 _) 1 _) (fun i hi e => by have := HLK.out.hw; omega)⟩
     ·have h3 : (t1.toList == t.toList) = false := by rw [ByteArray.toList_eq, ByteArray.toList_eq]; simpa using fun e => htt (ByteArray.ext (Array.toList_inj.1 e))
      have hT2 := HT.out; rw [if_neg (show ¬ (Nd.mk 2 t1 n1 l1).tx = t from htt)] at hT2; have HT := Z_ hT2; clear hT2 htt; by_cases h5 : 5 ≤ imps.length
      ·have h5i : (5 : Int) ≤ (imps.length : Int) := by omega
       have h5d : decide ((5 : Int) ≤ (imps.length : Int)) = true := by simpa using h5i
       have h5n : decide (5 ≤ imps.length) = true := by simpa using h5
       have hT9 := Z_ (show F = (1, pn) from (by have h := HT.out; rw [if_pos (show 5 ≤ (List.map keyB imps).length by rw [List.length_map]; exact h5)] at h; exact h.symm)); have hr := HLK.out.res.cell; have hrf := HLK.out.res.frozen; have hrl := HLK.out.res.lt; go_wp2_with fail
       refine ends_at rfl rfl rfl ((HLK.out.res.set 0 _).set 1 _) Tryz.underlying68 rfl (by kernel_rfl) ?_
       exact ⟨by rw [hT9.out]; rfl, HLK.out.ext.trans (chg_set (chg_set (S := P + 1) (Chg.refl _ _) 0 _) 1 _) (fun i hi e => by have := HLK.out.hw; omega)⟩
      ·have h5i : ¬ (5 : Int) ≤ (imps.length : Int) := by omega
       have h5d : decide ((5 : Int) ≤ (imps.length : Int)) = false := by simpa using h5i
       have h5n : decide (5 ≤ imps.length) = false := by simpa using h5
       have hT2 := HT.out; rw [if_neg (show ¬ 5 ≤ (List.map keyB imps).length by rw [List.length_map]; exact h5)] at hT2; have HT := Z_ hT2; have hw1 : IntKind.i64.wrap ((pn : Int) + 1) = ((pn + 1 : Nat) : Int) := by have := HZ1.out; rw [wrap_small _ (by omega) (by omega)]; omega
       clear hT2; obtain ⟨us, hu1, ho, hu3⟩ := HLK.out.gi.ex; have HO := Z_ ho; have HU9 := Z_ (And.intro hu1 hu3); clear ho hu1 hu3; obtain ⟨i0_, hi_, hz0, hz1, hz2⟩ := info_split info_str; have hub := HLK.out.hu; go_wp2_with (at_builtin; refine wpList_append_lies _ rfl _ _ 33 rfl B 9 i0_ (.string ⟨#[]⟩) 1 16 Tryz.underlying33 hi_ hz0 hz1 hz2 rfl (by decide) (.slice ai imps.length ci) imps.length (us.flatMap fun u => u.cells.toList) rfl (HO.out.alloc _) ⟨w'.heap.size, 0, none⟩ 1 1 [.string t1] rfl rfl (by intro j z_ hj; have e : (⟨w'.heap.size, 0, none⟩ : Addr).add j = ⟨w'.heap.size, j, none⟩ := (by unfold Addr.add; split <;> simp_all); rw [e, (Blk.made w' _ _).cell]; simpa using hj) (by intro z_ hz_; simp only [List.mem_cons, List.not_mem_nil, or_false] at hz_; subst hz_; rfl) (by decide) (by unfold maxLen; omega) (by omega) (by simp; omega) (w'.heap.size + 1) (by simp) ?_; intro g c' w4 hown hgrow hat hlt1; have HPU := Z_ (pushedG str_keeps HU9.out.1 HU9.out.2 (x := t1) (v := .string t1) ⟨rfl, by omega⟩ rfl hown hgrow hat); have HL4 := Z_ (HLK.out.pushI HPU.out.1 hgrow hat); have HG9 := Z_ hgrow; clear hown hgrow hat)
       go_wp2_with fail
       go_roundw
       case rel => exact ⟨q + 1, pn + 1, imps ++ [t1], names, by omega, by first | rfl | go_num, by go_num, by have h := HT.out; rw [List.map_append]; exact h, HL4, by simp; omega, hnl, by have := HZ1.out; show pn + 1 + szL (l.drop (q + 1)) ≤ 1000; omega⟩
       case measure => simp [intOf]; omega
   ·rcases hy with h | h | h
    ·exact absurd h.kd hki
    ·obtain ⟨hk3, -, hkk⟩ := h
     have hk3' : k1 = 3 := hk3; have hkk' : l1 = [] ∨ ∃ y, l1 = [y] ∧ 0 ≤ y.nm ∧ y.nm < 9223372036854775808 := hkk; subst hk3'; clear hk3 hkk hki; have hT2 := hT; rw [look_oth (by show ¬ (3 : Int) = 2; decide)] at hT2; have HT := Z_ hT2; clear hT hT2; obtain ⟨ai, ci, hri, hwi⟩ := words HLK.out.gn; subst hri; have HP := Z_ (face.place_any ai ci names t1 u1 hwi (by omega)); obtain ⟨Bq, hBq⟩ : ∃ B, (names.map fun x => x.data.toList).contains t1.data.toList = B := ⟨_, rfl⟩; rw [hBq] at HP; have HBQ := Z_ hBq; clear hwi hBq; go_wp2_with fail
     refine HP.out.mono ?_
     rintro e w' ⟨⟨kp, rfl, hkp⟩, rfl⟩; cases Bq with
     | true =>
      have hkp2 : 0 ≤ kp := of_decide_eq_true hkp; clear hkp HP; have hT9 := Z_ (show F = (5, pn) from (by have h := HT.out; rw [if_pos (show (List.map keyB names).contains (Nd.mk 3 t1 n1 _).key = true from HBQ.out)] at h; exact h.symm)); have hr := HLK.out.res.cell; have hrf := HLK.out.res.frozen; have hrl := HLK.out.res.lt; go_wp2_with fail
      refine ends_at rfl rfl rfl ((HLK.out.res.set 0 _).set 1 _) Tryz.underlying68 rfl (by kernel_rfl) ?_
      exact ⟨by rw [hT9.out]; rfl, HLK.out.ext.trans (chg_set (chg_set (S := P + 1) (Chg.refl _ _) 0 _) 1 _) (fun i hi e => by have := HLK.out.hw; omega)⟩
     | false =>
      have hkp2 : ¬ 0 ≤ kp := of_decide_eq_false hkp; have hT2 := HT.out; rw [if_neg (by rw [show (List.map keyB names).contains (Nd.mk 3 t1 n1 _).key = false from HBQ.out]; exact Bool.false_ne_true)] at hT2; have HT := Z_ hT2; clear hT2 HP; by_cases h5 : 20 ≤ names.length
      ·have h5i : (20 : Int) ≤ (names.length : Int) := by omega
       have h5d : decide ((20 : Int) ≤ (names.length : Int)) = true := by simpa using h5i
       have h5n : decide (20 ≤ names.length) = true := by simpa using h5
       have hT9 := Z_ (show F = (1, pn) from (by have h := HT.out; rw [if_pos (show 20 ≤ (List.map keyB names).length by rw [List.length_map]; exact h5)] at h; exact h.symm)); have hr := HLK.out.res.cell; have hrf := HLK.out.res.frozen; have hrl := HLK.out.res.lt; go_wp2_with fail
       refine ends_at rfl rfl rfl ((HLK.out.res.set 0 _).set 1 _) Tryz.underlying68 rfl (by kernel_rfl) ?_
       exact ⟨by rw [hT9.out]; rfl, HLK.out.ext.trans (chg_set (chg_set (S := P + 1) (Chg.refl _ _) 0 _) 1 _) (fun i hi e => by have := HLK.out.hw; omega)⟩
      ·have h5i : ¬ (20 : Int) ≤ (names.length : Int) := by omega
       have h5d : decide ((20 : Int) ≤ (names.length : Int)) = false := by simpa using h5i
       have h5n : decide (20 ≤ names.length) = false := by simpa using h5
       have hT2 := HT.out; rw [if_neg (show ¬ 20 ≤ (List.map keyB names).length by rw [List.length_map]; exact h5)] at hT2; have HT := Z_ hT2; clear hT2; obtain ⟨us, hu1, ho, hu3⟩ := HLK.out.gn.ex; have HO := Z_ ho; have HU9 := Z_ (And.intro hu1 hu3); clear ho hu1 hu3; obtain ⟨i0_, hi_, hz0, hz1, hz2⟩ := info_split info_str; have hub := HLK.out.hu; go_upto_region 20 with (at_builtin; refine wpList_append_lies _ rfl _ _ 33 rfl B 9 i0_ (.string ⟨#[]⟩) 1 16 Tryz.underlying33 hi_ hz0 hz1 hz2 rfl (by decide) (.slice ai names.length ci) names.length (us.flatMap fun u => u.cells.toList) rfl (HO.out.alloc _) ⟨w'.heap.size, 0, none⟩ 1 1 [.string t1] rfl rfl (by intro j z_ hj; have e : (⟨w'.heap.size, 0, none⟩ : Addr).add j = ⟨w'.heap.size, j, none⟩ := (by unfold Addr.add; split <;> simp_all); rw [e, (Blk.made w' _ _).cell]; simpa using hj) (by intro z_ hz_; simp only [List.mem_cons, List.not_mem_nil, or_false] at hz_; subst hz_; rfl) (by decide) (by unfold maxLen; omega) (by omega) (by simp; omega) (w'.heap.size + 1) (by simp) ?_; intro g c' w4 hown hgrow hat hlt1; have HPU := Z_ (pushedG str_keeps HU9.out.1 HU9.out.2 (x := t1) (v := .string t1) ⟨rfl, by omega⟩ rfl hown hgrow hat); have HL4 := Z_ (HLK.out.pushN HPU.out.1 hgrow hat); have HG9 := Z_ hgrow; clear hown hgrow hat)
       have HK4 := Z_ (synr.grown_blk HG9.out (HK.out.alloc _) (fun e => by have := HOWN.out K e; omega)); clear HPU HO HU9 HG9 hc hk HK HLK HBQ hub h5i h5d h5n; have hk := HK4.out.cell; rcases hkk' with rfl | ⟨y, rfl, hy0, hy1⟩
       ·obtain rfl : N1 = 0 := by simpa using HN1.out.symm
        have hT2 := HT.out; rw [if_pos (by rfl)] at hT2; have HT := Z_ hT2; clear hT2; have HW := Z_ (ofw.rweight_any _ _ w4 H (HU1.out _ HL4.out.ext) (by have := HZ1.out; omega)); obtain ⟨z, hz⟩ : ∃ z, szF (Nd.mk 3 t1 n1 []) = z := ⟨_, rfl⟩; rw [hz] at HW; have HZ2 := HZ1.out; rw [hz] at HZ2; have HZ3 := Z_ HZ2; have hT2 := HT.out; rw [hz] at hT2; have HT := Z_ hT2; have hw1 : IntKind.i64.wrap ((pn : Int) + (z : Int)) = ((pn + z : Nat) : Int) := by rw [wrap_small _ (by omega) (by omega)]; omega
        clear hz HZ2 hT2 HZ1; go_wp2_with fail
        refine HW.out.mono ?_
        rintro e w5 ⟨rfl, hE5⟩; have HL5 := Z_ (HL4.out.extend hE5); clear hE5 HW hk; go_wp2_with fail
        go_roundw
        case rel => exact ⟨q + 1, pn + z, imps, names ++ [t1], by omega, by first | rfl | go_num, by go_num, by have h := HT.out; rw [List.map_append]; exact h, HL5, hil, by simp; omega, by have := HZ3.out; show pn + z + szL (l.drop (q + 1)) ≤ 1000; omega⟩
        case measure => simp [intOf]; omega
       ·obtain rfl : N1 = 1 := by simpa using HN1.out.symm
        obtain ⟨b1, o1, rfl, hb1, u2, hu2, hus2, hcl2⟩ := HI1.out w (Chg.refl _ _) 0 (by simp); rw [hide_size] at hb1; obtain ⟨ky, ty, my, ly⟩ := y; rw [List.getElem_cons_zero, ndAt_mk] at hu2; obtain ⟨ay, cy, rfl, -⟩ := hu2; have q2 : w4.cell? ⟨b1, o1 + 2, none⟩ = some (.int .i64 my) := (HL4.out.ext.cell (p := ⟨b1, o1 + 2, none⟩) hb1 id).trans ((keeps_bare H w).2 _ _ (by have h := hcl2 2 (by decide); simp only [Nat.zero_mul, Nat.add_zero] at h; exact h)); clear hcl2 hus2; have hT2 := HT.out; have hd : declF (Nd.mk 3 t1 n1 [Nd.mk ky ty my ly]) pn = if 1 ≤ my ∧ my ≤ 64 then (0, 0) else (6, pn) := rfl
        rw [hd] at hT2; by_cases h1 : my < 1
        ·have h1d : decide (my < 1) = true := by simpa using h1
         rw [if_neg (show ¬ (1 ≤ my ∧ my ≤ 64) by omega)] at hT2; have hT9 := Z_ (show F = (6, pn) from (by rw [if_neg (show ¬ (6 : Int) = 0 by decide)] at hT2; exact hT2.symm)); have hr := HL4.out.res.cell; have hrf := HL4.out.res.frozen; have hrl := HL4.out.res.lt; go_wp2_with fail
         refine ends_at rfl rfl rfl ((HL4.out.res.set 0 _).set 1 _) Tryz.underlying68 rfl (by kernel_rfl) ?_
         exact ⟨by rw [hT9.out]; rfl, HL4.out.ext.trans (chg_set (chg_set (S := P + 1) (Chg.refl _ _) 0 _) 1 _) (fun i hi e => by have := HL4.out.hw; omega)⟩
        ·have h1d : decide (my < 1) = false := by simpa using h1
         by_cases h2 : 64 < my
         ·have h2d : decide (64 < my) = true := by simpa using h2
          rw [if_neg (show ¬ (1 ≤ my ∧ my ≤ 64) by omega)] at hT2; have hT9 := Z_ (show F = (6, pn) from (by rw [if_neg (show ¬ (6 : Int) = 0 by decide)] at hT2; exact hT2.symm)); have hr := HL4.out.res.cell; have hrf := HL4.out.res.frozen; have hrl := HL4.out.res.lt; go_wp2_with fail
          refine ends_at rfl rfl rfl ((HL4.out.res.set 0 _).set 1 _) Tryz.underlying68 rfl (by kernel_rfl) ?_
          exact ⟨by rw [hT9.out]; rfl, HL4.out.ext.trans (chg_set (chg_set (S := P + 1) (Chg.refl _ _) 0 _) 1 _) (fun i hi e => by have := HL4.out.hw; omega)⟩
         ·have h2d : decide (64 < my) = false := by simpa using h2
          rw [if_pos (show 1 ≤ my ∧ my ≤ 64 by omega), if_pos (by rfl)] at hT2; have HT := Z_ hT2; clear hT2 hd; have HW := Z_ (ofw.rweight_any _ _ w4 H (HU1.out _ HL4.out.ext) (by have := HZ1.out; omega)); obtain ⟨z, hz⟩ : ∃ z, szF (Nd.mk 3 t1 n1 [Nd.mk ky ty my ly]) = z := ⟨_, rfl⟩; rw [hz] at HW; have HZ2 := HZ1.out; rw [hz] at HZ2; have HZ3 := Z_ HZ2; have hT2 := HT.out; rw [hz] at hT2; have HT := Z_ hT2; have hw1 : IntKind.i64.wrap ((pn : Int) + (z : Int)) = ((pn + z : Nat) : Int) := by rw [wrap_small _ (by omega) (by omega)]; omega
          clear hz HZ2 hT2 HZ1; go_wp2_with fail
          refine HW.out.mono ?_
          rintro e w5 ⟨rfl, hE5⟩; have HL5 := Z_ (HL4.out.extend hE5); clear hE5 HW hk; go_wp2_with fail
          go_roundw
          case rel => exact ⟨q + 1, pn + z, imps, names ++ [t1], by omega, by first | rfl | go_num, by go_num, by have h := HT.out; rw [List.map_append]; exact h, HL5, hil, by simp; omega, by have := HZ3.out; show pn + z + szL (l.drop (q + 1)) ≤ 1000; omega⟩
          case measure => simp [intOf]; omega
    ·obtain ⟨hk4, -, ps, bl, hkk, -⟩ := h
     have hk4' : k1 = 4 := hk4; have hkk' : l1 = ps ++ [bl] := hkk; have hN1p : 1 ≤ l1.length := by rw [hkk']; simp
     subst hk4'; clear hk4 hkk hkk' hki; have hT2 := hT; rw [look_oth (by show ¬ (4 : Int) = 2; decide)] at hT2; have HT := Z_ hT2; clear hT hT2; obtain ⟨ai, ci, hri, hwi⟩ := words HLK.out.gn; subst hri; have HP := Z_ (face.place_any ai ci names t1 u1 hwi (by omega)); obtain ⟨Bq, hBq⟩ : ∃ B, (names.map fun x => x.data.toList).contains t1.data.toList = B := ⟨_, rfl⟩; rw [hBq] at HP; have HBQ := Z_ hBq; clear hwi hBq; go_wp2_with fail
     refine HP.out.mono ?_
     rintro e w' ⟨⟨kp, rfl, hkp⟩, rfl⟩; cases Bq with
     | true =>
      have hkp2 : 0 ≤ kp := of_decide_eq_true hkp; clear hkp HP; have hT9 := Z_ (show F = (5, pn) from (by have h := HT.out; rw [if_pos (show (List.map keyB names).contains (Nd.mk 4 t1 n1 _).key = true from HBQ.out)] at h; exact h.symm)); have hr := HLK.out.res.cell; have hrf := HLK.out.res.frozen; have hrl := HLK.out.res.lt; go_wp2_with fail
      refine ends_at rfl rfl rfl ((HLK.out.res.set 0 _).set 1 _) Tryz.underlying68 rfl (by kernel_rfl) ?_
      exact ⟨by rw [hT9.out]; rfl, HLK.out.ext.trans (chg_set (chg_set (S := P + 1) (Chg.refl _ _) 0 _) 1 _) (fun i hi e => by have := HLK.out.hw; omega)⟩
     | false =>
      have hkp2 : ¬ 0 ≤ kp := of_decide_eq_false hkp; have hT2 := HT.out; rw [if_neg (by rw [show (List.map keyB names).contains (Nd.mk 4 t1 n1 _).key = false from HBQ.out]; exact Bool.false_ne_true)] at hT2; have HT := Z_ hT2; clear hT2 HP; by_cases h5 : 20 ≤ names.length
      ·have h5i : (20 : Int) ≤ (names.length : Int) := by omega
       have h5d : decide ((20 : Int) ≤ (names.length : Int)) = true := by simpa using h5i
       have h5n : decide (20 ≤ names.length) = true := by simpa using h5
       have hT9 := Z_ (show F = (1, pn) from (by have h := HT.out; rw [if_pos (show 20 ≤ (List.map keyB names).length by rw [List.length_map]; exact h5)] at h; exact h.symm)); have hr := HLK.out.res.cell; have hrf := HLK.out.res.frozen; have hrl := HLK.out.res.lt; go_wp2_with fail
       refine ends_at rfl rfl rfl ((HLK.out.res.set 0 _).set 1 _) Tryz.underlying68 rfl (by kernel_rfl) ?_
       exact ⟨by rw [hT9.out]; rfl, HLK.out.ext.trans (chg_set (chg_set (S := P + 1) (Chg.refl _ _) 0 _) 1 _) (fun i hi e => by have := HLK.out.hw; omega)⟩
      ·have h5i : ¬ (20 : Int) ≤ (names.length : Int) := by omega
       have h5d : decide ((20 : Int) ≤ (names.length : Int)) = false := by simpa using h5i
       have h5n : decide (20 ≤ names.length) = false := by simpa using h5
       have hT2 := HT.out; rw [if_neg (show ¬ 20 ≤ (List.map keyB names).length by rw [List.length_map]; exact h5)] at hT2; have HT := Z_ hT2; clear hT2; obtain ⟨us, hu1, ho, hu3⟩ := HLK.out.gn.ex; have HO := Z_ ho; have HU9 := Z_ (And.intro hu1 hu3); clear ho hu1 hu3; obtain ⟨i0_, hi_, hz0, hz1, hz2⟩ := info_split info_str; have hub := HLK.out.hu; go_upto_region 20 with (at_builtin; refine wpList_append_lies _ rfl _ _ 33 rfl B 9 i0_ (.string ⟨#[]⟩) 1 16 Tryz.underlying33 hi_ hz0 hz1 hz2 rfl (by decide) (.slice ai names.length ci) names.length (us.flatMap fun u => u.cells.toList) rfl (HO.out.alloc _) ⟨w'.heap.size, 0, none⟩ 1 1 [.string t1] rfl rfl (by intro j z_ hj; have e : (⟨w'.heap.size, 0, none⟩ : Addr).add j = ⟨w'.heap.size, j, none⟩ := (by unfold Addr.add; split <;> simp_all); rw [e, (Blk.made w' _ _).cell]; simpa using hj) (by intro z_ hz_; simp only [List.mem_cons, List.not_mem_nil, or_false] at hz_; subst hz_; rfl) (by decide) (by unfold maxLen; omega) (by omega) (by simp; omega) (w'.heap.size + 1) (by simp) ?_; intro g c' w4 hown hgrow hat hlt1; have HPU := Z_ (pushedG str_keeps HU9.out.1 HU9.out.2 (x := t1) (v := .string t1) ⟨rfl, by omega⟩ rfl hown hgrow hat); have HL4 := Z_ (HLK.out.pushN HPU.out.1 hgrow hat); have HG9 := Z_ hgrow; clear hown hgrow hat)
       have HK4 := Z_ (synr.grown_blk HG9.out (HK.out.alloc _) (fun e => by have := HOWN.out K e; omega)); clear HPU HO HU9 HG9 hc hk HK HLK HBQ hub h5i h5d h5n; have hk := HK4.out.cell; rw [HN1.out] at hN1p; obtain ⟨M, hM⟩ : ∃ M, M + 1 = N1 := ⟨N1 - 1, by omega⟩; have hDl : l1.dropLast.length = M := by rw [List.length_dropLast, HN1.out]; omega
       have hT2 := HT.out; have hd : declF (Nd.mk 4 t1 n1 l1) pn = if 5 < l1.dropLast.length then (1, pn) else parF pn 0 [] l1.dropLast := rfl
       rw [hd, hDl] at hT2; have hNb : N1 ≤ 1000 := by have hz1 := HZ1.out; have hz2 := len_le_szL l1; have hz3 : szF (Nd.mk 4 t1 n1 l1) = szL l1 + 1 := rfl; have := HN1.out; omega
       have HW0 := Z_ (show IntKind.i64.wrap ((N1 : Int) - 1) = (M : Int) by rw [wrap_small _ (by omega) (by omega)]; omega); have hpb := HZ1.out; by_cases h5 : 5 < M
       ·have h5d : decide ((5 : Int) < (M : Int)) = true := by simp; omega
        have h5e : decide (5 < M) = true := by simpa using h5
        rw [if_pos h5, if_neg (show ¬ (1 : Int) = 0 by decide)] at hT2; have hw0 := HW0.out; have hT9 := Z_ (show F = (1, pn) from hT2.symm); have hr := HL4.out.res.cell; have hrf := HL4.out.res.frozen; have hrl := HL4.out.res.lt; go_wp2_with fail
        refine ends_at rfl rfl rfl ((HL4.out.res.set 0 _).set 1 _) Tryz.underlying68 rfl (by kernel_rfl) ?_
        exact ⟨by rw [hT9.out]; rfl, HL4.out.ext.trans (chg_set (chg_set (S := P + 1) (Chg.refl _ _) 0 _) 1 _) (fun i hi e => by have := HL4.out.hw; omega)⟩
       ·have h5d : decide ((5 : Int) < (M : Int)) = false := by simp; omega
        have h5e : decide (5 < M) = false := by simp; omega
        rw [if_neg h5] at hT2; obtain ⟨G, hG⟩ : ∃ G, parF pn 0 [] l1.dropLast = G := ⟨_, rfl⟩; rw [hG] at hT2; have HT := Z_ hT2; have HG := Z_ hG; have HDL := Z_ hDl; clear hT2 hG hd hDl; obtain ⟨B2, hB2⟩ : ∃ B2, w4.heap.size = B2 := ⟨_, rfl⟩; have hBB2 : B ≤ B2 := by have := HL4.out.hu; omega
        have HB2 := Z_ hB2; clear hB2; have hw0 := HW0.out; obtain ⟨wo, rfl⟩ : ∃ wo, wo = wr := ⟨_, rfl⟩; go_wp2_with fail
        clear hw0; go_loopw [8, 9] (fun r8 j wr => ∃ (jn : Nat) (seen : List ByteArray), jn ≤ M ∧ j = .int .i64 (jn : Nat) ∧ seen.length = jn ∧ Hid (parF pn jn (seen.map keyB) (l1.dropLast.drop jn) = G) ∧ Hid (Ext w4 wr) ∧ Hid (Grow 1 9 OStr B2 wr r8 seen)) (fun _ j _ => N1 - (intOf j).toNat)
        case atStart => exact ⟨0, [], Nat.zero_le _, rfl, rfl, by rw [List.drop_zero]; exact HG, Z_ (Chg.refl _ _), Z_ (Grow.nil _ _ _ _ _)⟩
        clear HG hk
        case round =>
         obtain ⟨jn, seen, hjM, rfl, hsl, HG, HE2, HGR⟩ := hrel; have HL2 := Z_ (HL4.out.extend HE2.out); have HK2 := Z_ (HK4.out.ext HE2.out); have hk := HK2.out.cell; obtain ⟨j1, hj1⟩ : ∃ j1, j1 = jn + 1 := ⟨_, rfl⟩; have HW1 := Z_ (show IntKind.i64.wrap ((jn : Int) + 1) = (j1 : Int) by rw [wrap_small _ (by omega) (by omega)]; omega); by_cases hlj : jn < M
         ·have hji : (j1 : Int) < (N1 : Int) := by omega
          have hjd : decide ((j1 : Int) < (N1 : Int)) = true := by simpa using hji
          have hjd2 : decide (j1 < N1) = true := by simp; omega
          have hjN : (jn : Int) < (N1 : Int) := by omega
          have hjl : jn < l1.length := by have := HN1.out; omega
          have hjl2 : jn < l1.dropLast.length := by have := HDL.out; omega
          obtain ⟨b1, o1, e1, hb1, u2, hu2, hus2, hcl2⟩ := HI1.out w (Chg.refl _ _) jn hjl; subst e1; rw [hide_size] at hb1; have hG2 := HG.out; rw [List.drop_eq_getElem_cons hjl2, List.getElem_dropLast] at hG2; generalize l1[jn] = y at hu2 hG2; obtain ⟨ky, ty, my, ly⟩ := y; rw [ndAt_mk] at hu2; obtain ⟨ay, cy, rfl, -, -, hty, -⟩ := hu2; have q1 : wr.cell? ⟨b1, o1 + jn * 4 + 1, none⟩ = some (.string ty) := (HL2.out.ext.cell (p := ⟨b1, o1 + jn * 4 + 1, none⟩) hb1 id).trans ((keeps_bare H w).2 _ _ ((hcl2 1 (by decide)).trans rfl)); have HB1 := Z_ hb1; clear hcl2 hus2; rw [parF] at hG2; have HG2 := Z_ hG2; clear hG2 HG; obtain ⟨p1, hp1⟩ : ∃ p1, p1 = pn + 1 := ⟨_, rfl⟩; obtain ⟨p2, hp2⟩ : ∃ p2, p2 = pn + 1 + jn := ⟨_, rfl⟩; have HW2 := Z_ (show IntKind.i64.wrap ((pn : Int) + 1) = (p1 : Int) by rw [wrap_small _ (by omega) (by omega)]; omega); have HW3 := Z_ (show IntKind.i64.wrap ((p1 : Int) + (jn : Int)) = (p2 : Int) by rw [wrap_small _ (by omega) (by omega)]; omega)
          have HQ1 := Z_ (And.intro hj1 (And.intro hp1 hp2)); obtain ⟨ai, ci, hri, hwi⟩ := words HGR.out; subst hri; have HP := Z_ (face.place_any ai ci seen ty wr hwi (by omega)); obtain ⟨Bq, hBq⟩ : ∃ B, (seen.map fun x => x.data.toList).contains ty.data.toList = B := ⟨_, rfl⟩; rw [hBq] at HP; have HBQ := Z_ hBq; have HSL := Z_ hsl; clear hwi hBq hj1 hp1 hp2 hsl; have hw1 := HW1.out; have hbl1 := Nat.lt_of_lt_of_le HB1.out HL2.out.ext.size; go_wp2_with fail
          refine HP.out.mono ?_
          rintro e w' ⟨⟨kp, rfl, hkp⟩, rfl⟩; cases Bq with
          | true =>
           have hkp2 : 0 ≤ kp := of_decide_eq_true hkp; have hw2 := HW2.out; have hw3 := HW3.out; clear hkp HP; have hT9 := Z_ (show F = (5, p2) from (by have h := HG2.out; rw [if_pos (show (List.map keyB seen).contains (Nd.mk ky ty my ly).key = true from HBQ.out)] at h; have h9 := HT.out; rw [← h, if_neg (show ¬ (5 : Int) = 0 by decide)] at h9; rw [← h9, HQ1.out.2.2])); have hr := HL2.out.res.cell; have hrf := HL2.out.res.frozen; have hrl := HL2.out.res.lt; go_wp2_with fail
           refine ends_at rfl rfl rfl ((HL2.out.res.set 0 _).set 1 _) Tryz.underlying68 rfl (by kernel_rfl) ?_
           exact ⟨by rw [hT9.out]; rfl, HL2.out.ext.trans (chg_set (chg_set (S := P + 1) (Chg.refl _ _) 0 _) 1 _) (fun i hi e => by have := HL2.out.hw; omega)⟩
          | false =>
           have hkp2 : ¬ 0 ≤ kp := of_decide_eq_false hkp; have hG3 := HG2.out; rw [if_neg (by rw [show (List.map keyB seen).contains (Nd.mk ky ty my ly).key = false from HBQ.out]; exact Bool.false_ne_true)] at hG3; have HG3 := Z_ hG3; have HQ3 := Z_ HQ1.out.1; clear hG3 HP HQ1 HW2 HW3; obtain ⟨us, hu1, ho, hu3⟩ := HGR.out.ex; have HO := Z_ ho; have HU9 := Z_ (And.intro hu1 hu3); clear ho hu1 hu3; obtain ⟨i0_, hi_, hz0, hz1, hz2⟩ := info_split info_str; have hub : B2 ≤ w'.heap.size := by have := HE2.out.size; have := HB2.out; omega
           have hsl3 : seen.length ≤ 1000 := by have := HSL.out; omega
           go_wp2_with (at_builtin; refine wpList_append_lies _ rfl _ _ 33 rfl B2 9 i0_ (.string ⟨#[]⟩) 1 16 Tryz.underlying33 hi_ hz0 hz1 hz2 rfl (by decide) (.slice ai seen.length ci) seen.length (us.flatMap fun u => u.cells.toList) rfl (HO.out.alloc _) ⟨w'.heap.size, 0, none⟩ 1 1 [.string ty] rfl rfl (by intro j z_ hj; have e : (⟨w'.heap.size, 0, none⟩ : Addr).add j = ⟨w'.heap.size, j, none⟩ := (by unfold Addr.add; split <;> simp_all); rw [e, (Blk.made w' _ _).cell]; simpa using hj) (by intro z_ hz_; simp only [List.mem_cons, List.not_mem_nil, or_false] at hz_; subst hz_; rfl) (by decide) (by unfold maxLen; omega) (by omega) (by simp; omega) (w'.heap.size + 1) (by simp) ?_; intro g c' w6 hown hgrow hat hlt1; have HPU := Z_ (pushedG str_keeps HU9.out.1 HU9.out.2 (x := ty) (v := .string ty) ⟨rfl, hty⟩ rfl hown hgrow hat); clear hown hgrow hat)
           have HE6 := Z_ (HE2.out.trans HPU.out.2 (fun i hi e => by have := grow_own HGR.out i e; have := HB2.out; omega)); go_wp2_with fail
           go_roundw
           case rel => exact ⟨jn + 1, seen ++ [ty], by omega, by have := HQ3.out; subst this; first | rfl | go_num, by have := HSL.out; simp; omega, by have h := HG3.out; rw [List.map_append]; exact h, HE6, HPU.out.1⟩
           case measure => have := HQ3.out; simp [intOf]; omega
         ·obtain rfl : jn = M := by omega
          obtain rfl : j1 = N1 := by omega
          have hjd : decide ((j1 : Int) < (j1 : Int)) = false := by simp
          have hjd2 : decide (j1 < j1) = false := by simp
          have hG2 := HG.out; rw [List.drop_of_length_le (by rw [HDL.out]; exact Nat.le_refl _)] at hG2; have hG3 : G = (0, 0) := hG2.symm; have hT2 := HT.out; rw [hG3, if_pos rfl] at hT2; have HT := Z_ hT2; have hw1 := HW1.out; have HJ := Z_ (And.intro hj1 hM); clear hT2 hG2 hG3 hj1 hM; have HW := Z_ (ofw.rweight_any _ _ wr H (HU1.out _ HL2.out.ext) (by have := HZ1.out; omega)); obtain ⟨z, hz⟩ : ∃ z, szF (Nd.mk 4 t1 n1 l1) = z := ⟨_, rfl⟩; rw [hz] at HW; have HZ2 := HZ1.out; rw [hz] at HZ2; have HZ3 := Z_ HZ2; have hT2 := HT.out; rw [hz] at hT2; have HT := Z_ hT2; have hw1 : IntKind.i64.wrap ((pn : Int) + (z : Int)) = ((pn + z : Nat) : Int) := by rw [wrap_small _ (by omega) (by omega)]; omega
          clear hz HZ2 hT2 HZ1; go_wp2_with fail
          refine HW.out.mono ?_
          rintro e w5 ⟨rfl, hE5⟩; have HL5 := Z_ (HL2.out.extend hE5); clear hE5 HW hk; go_wp2_with fail
          go_roundw
          case rel => exact ⟨q + 1, pn + z, imps, names ++ [t1], by omega, by first | rfl | go_num, by go_num, by have h := HT.out; rw [List.map_append]; exact h, HL5, hil, by simp; omega, by have := HZ3.out; show pn + z + szL (l.drop (q + 1)) ≤ 1000; omega⟩
          case measure => simp [intOf]; omega
  ·obtain rfl : q = N := by omega
   have hqd : decide ((q : Int) < (q : Int)) = false := by simp
   have hT2 := HT.out; rw [List.drop_of_length_le (by rw [HN.out]; exact Nat.le_refl _)] at hT2; have hT9 := Z_ (show F = (0, 0) from (by rw [← hT2]; rfl)); have hr := HL.out.res.cell; have hrf := HL.out.res.frozen; have hrl := HL.out.res.lt; go_wp2_with fail
   refine ends_at rfl rfl rfl ((HL.out.res.set 0 _).set 1 _) Tryz.underlying68 rfl (by kernel_rfl) ?_
   exact ⟨by rw [hT9.out]; rfl, HL.out.ext.trans (chg_set (chg_set (S := P + 1) (Chg.refl _ _) 0 _) 1 _) (fun i hi e => by have := HL.out.hw; omega)⟩
end ofl
end Go.Proofs.YtpcihajmcejliabGreatDoor
