/- The walk of the checker's call: a call whose kids are done. -/
import Derived.Test.YtpcihajmcejliacGreatDoorSynC
import Derived.Test.YtpcihajmcejliacGreatDoorChkV
namespace Go.Proofs.YtpcihajmcejliacGreatDoor
open Go.RowKit
namespace chk
open synw ofp
structure PrC (W : World) (p : FProc) (p0 p1 p2 p3 p4 p5 : Value) : Prop where
 c0 : p0 = .string p.name
 c1 : p1 = .bool p.pub
 c2 : ∃ a c, p2 = .slice a p.params.length c ∧ AllIn 1 IntIn W a p.params ∧ p.params.length ≤ c ∧ c ≤ maxLen
 c3 : p3 = .int .i64 p.writes
 c4 : p4 = .bool p.gives
 c5 : p5 = .int .i64 p.given
theorem proc_snoc {l : List FProc} {s : ByteArray} {k : Nat} (h : k < l.length) : procN_ (l.take (k + 1)) s = if l[k].name = s then some l[k] else procN_ (l.take k) s := by
 unfold procN_; rw [List.take_succ_eq_append_getElem h, List.foldl_append]; rfl
def CallX (W u0 u : World) (X : Nat) (k0 m0 : Int) (kv : Value) (ref : CRef) (l0 ctx : Int) (o : Option FProc) : Prop :=
 Chg (fun i => i = X) u0 u ∧ ∃ p0 p1 p2 p3 p4 p5, Blk u X (trC k0 m0 kv ref p0 p1 p2 p3 p4 p5 l0 ctx) 345 ∧ ∀ p, o = some p → PrC W p p0 p1 p2 p3 p4 p5
def FlowF (w0 : World) (z : Int) (ls : List Int) (n : Nat) : List Value → World → Prop
 | [], u => Ext w0 u
 | [v], u => Ext w0 u ∧ ∃ g, v = .slice (some ⟨g, 0, none⟩) n n ∧ Blk u g (ls.map (.int .i64)).toArray 3
 | _, u => flowB z ls = true ∧ Ext w0 u
theorem FlowF.ext {w0 : World} {z : Int} {ls : List Int} {n : Nat} {vs : List Value} {u : World} (h : FlowF w0 z ls n vs u) : Ext w0 u := by
 match vs, h with
 | [], h => exact h
 | [_], h => exact h.1
 | _ :: _ :: _, h => exact h.2
theorem flow_row {u : World} {g : Nat} {ls : List Int} {T : TypeId} (h : Blk u g (ls.map (.int .i64)).toArray T) : AllIn 1 IntIn u (some ⟨g, 0, none⟩) ls := fun j hj => ⟨g, 0, rfl, h.lt, by
 unfold IntIn; rw [h.cell]; simp [hj]⟩
theorem flow_made {w0 u : World} {z : Int} {ls : List Int} {n : Nat} {cs : Array Value} (h : Ext w0 u) (hc : cs = (ls.map (.int .i64)).toArray) : FlowF w0 z ls n [.slice (some ⟨u.heap.size, 0, none⟩) n n] (u.alloc (.cells cs 3)) := by
 subst hc; exact ⟨h.alloc _, _, rfl, Blk.made _ _ _⟩
def CallPost (u : World) (X : Nat) (k0 m0 : Int) (kv : Value) (ctx : Int) (T : Rz (CRef × Int)) (e : Ending) (u' : World) : Prop := Chg (fun i => i = X) u u' ∧ match T with
 | .bad c p => e = .panicked (firstC c (p : Nat))
 | .ok r => e = .returned (.tuple #[]) ∧ RefOk r.1 ∧ ∃ p0 p1 p2 p3 p4 p5, Blk u' X (trC k0 m0 kv r.1 p0 p1 p2 p3 p4 p5 r.2 ctx) 345
theorem args_step {ps : List Int} {ks : List Tr} : ∀ {j : Nat} (h1 : j < ps.length) (h2 : j < ks.length), argsB (ps.take (j + 1)) (ks.take (j + 1)) = (argsB (ps.take j) (ks.take j) && flowB ps[j] [ks[j].lab]) := by
 induction ps generalizing ks with
 | nil => intro j h; cases h
 | cons p r ih =>
  intro j h1 h2; cases ks with
  | nil => cases h2
  | cons k q =>
   cases j with
   | zero => simp [argsB]
   | succ j =>
    simp only [List.take_succ_cons, argsB, List.getElem_cons_succ]; rw [ih (by simpa using h1) (by simpa using h2), Bool.and_assoc]
theorem args_bad {ps : List Int} {ks : List Tr} : ∀ {j : Nat} (h1 : j < ps.length) (h2 : j < ks.length), flowB ps[j] [ks[j].lab] = false → argsB ps ks = false := by
 induction ps generalizing ks with
 | nil => intro j h; cases h
 | cons p r ih =>
  intro j h1 h2 hb; cases ks with
  | nil => cases h2
  | cons k q =>
   cases j with
   | zero =>
    rw [argsB]; have hb' : flowB p [k.lab] = false := hb; rw [hb']; rfl
   | succ j =>
    rw [argsB, ih (j := j) (by simpa using h1) (by simpa using h2) (by simpa using hb), Bool.and_false]
set_option maxRecDepth 100000 in
set_option maxHeartbeats 8000000 in
theorem call_any {W u : World} {C Mo D K P B : Nat} {E : CEnv} {vl : Value} {L : List Loc} {deep at_ : Int} {bod fac : Value} {dc pc : Array Value} (h : CS W u C Mo D K P B E vl L deep at_ bod fac dc pc) (hmv : MaxVar W) {X : Nat} {k0 m0 l0 ctx : Int} {ka : Option Addr} {kc : Nat} {ks : List Tr} {q0 q1 q2 q3 q4 q5 : Value} {t : ByteArray} {n1 : Int} {n2 : Value} (alone : Bool) (p : Nat)
  (hX : Blk u X (trC k0 m0 (.slice ka ks.length kc) zRef q0 q1 q2 q3 q4 q5 l0 ctx) 345) (hks : AllIn 1 TrIn (hide (fun i => decide (i = X)) u) ka ks) (hkc : ks.length ≤ kc) (hkn : ks.length ≤ 1000) (ht : t.size ≤ 10000) (hXW : W.heap.size ≤ X) (hXB : B ≤ X) (hn2 : ∃ a b c, n2 = .slice a b c) :
  Calls Tryz.prog 338 #[.pointer (some ⟨C, 0, none⟩), .agg #[.int .i64 18, .string t, .int .i64 n1, n2], .pointer (some ⟨X, 0, none⟩), .int .i64 (p : Nat), .bool alone] u (CallPost u X k0 m0 (.slice ka ks.length kc) ctx (callF E ctx alone t ks p)) := by
 obtain ⟨T, hT⟩ : ∃ T, callF E ctx alone t ks p = T := ⟨_, rfl⟩; rw [hT]; unfold callF at hT; obtain ⟨na, nb, nc, rfl⟩ := hn2; have HKS := Z_ hks; have HMV := Z_ hmv; obtain ⟨nk, hnk⟩ : ∃ nk, ks.length = nk := ⟨_, rfl⟩; rw [hnk] at hX hkc hkn ⊢; have HNK := Z_ hnk; have hE0 := (Chg.refl (fun _ => False) u).alloc (.cells #[.int .i64 18, .string t, .int .i64 n1, .slice na nb nc] 24); have HC := Z_ (h.extend hE0); have HN := Z_ (Blk.made u #[.int .i64 18, .string t, .int .i64 n1, .slice na nb nc] 24); have HX := Z_ (hX.ext hE0); have HE := Z_ hE0; have hXl := hX.lt; obtain ⟨N, hN⟩ : ∃ N, u.heap.size = N := ⟨_, rfl⟩; rw [hN] at HN hXl; clear hE0 h hX hks hmv hnk; go_enter Tryz.func338, Tryz.ntmps338
 go_upto_region 1 with (fail)
 try rw [hN]
 generalize u.alloc (.cells #[.int .i64 18, .string t, .int .i64 n1, .slice na nb nc] 24) = u1 at *; clear hN; have hnc := HN.out.cell; go_wp2_with fail
 refine (face_any HC.out HMV.out t ht).mono ?_
 rintro e w2 ⟨fv, rfl, hfa, hE2⟩; obtain ⟨Q, hQ⟩ : ∃ Q, faceN E t = Q := ⟨_, rfl⟩; have hns := fun f s b e => name_size t ht (E := E) (f := f) (s := s) (b := b) (hQ.trans e)
 rw [hQ] at hfa hT ⊢; obtain ⟨f, s, is_⟩ := Q; have HSZ := Z_ (hns f s is_ rfl); replace hfa : FaceAt W f fv := hfa; obtain ⟨a9, m9, c9, d9, rfl, -, hva, hms, -, -, hd9, hd8⟩ := hfa; simp only at hT; have HT := Z_ hT; have hE3 := hE2.alloc (.cells #[.string f.modn, .slice a9 f.vars.length m9, .slice c9 f.procs.length d9] 37); have HF := Z_ (Blk.made w2 #[.string f.modn, .slice a9 f.vars.length m9, .slice c9 f.procs.length d9] 37); have HV := Z_ (fun (w : World) (hE : Ext W w) => (hva.mono hE.size fun _ _ _ hb h => ProcIn.ext hE hb h : AllIn 6 ProcIn w c9 f.procs)); have HI := Z_ hva; have HC3 := Z_ (HC.out.extend hE3); have HX3 := Z_ (HX.out.ext hE3); have HE3 := Z_ (HE.out.ext hE3); have HMS := Z_ hms; obtain ⟨F, hF⟩ : ∃ F, w2.heap.size = F := ⟨_, rfl⟩; rw [hF] at HF; have HXF := Z_ (show X < F by have h1 := HX.out.lt; have h2 := hE2.size; omega)
 have HWX := Z_ hXW; have HBX := Z_ hXB; clear hE2 hE3 hva hT hms hnc HC HN HX HE hQ hns; go_upto_region 2 with (fail)
 try rw [hF]
 generalize w2.alloc (.cells #[.string f.modn, .slice a9 f.vars.length m9, .slice c9 f.procs.length d9] 37) = u3 at *; clear hF; have hfc := HF.out.cell; obtain ⟨np, hnp⟩ : ∃ np, f.procs.length = np := ⟨_, rfl⟩; rw [hnp] at hfc hd9; have HNP := Z_ hnp; obtain ⟨fm, hfm⟩ : ∃ fm, f.modn = fm := ⟨_, rfl⟩; rw [hfm] at hfc; have HFM := Z_ hfm; have hnp8 : np ≤ 9223372036854775807 := by unfold maxLen at hd8; omega
 clear hnp hfm; go_wp2_with fail
 clear hfc; go_loopw [13, 30] (fun fd i wr => ∃ (k : Nat) (o : Option FProc), k ≤ np ∧ i = .int .i64 (k : Nat) ∧ fd = .bool o.isSome ∧ Hid ((if is_ = true then procN_ (f.procs.take k) s else none) = o) ∧ Hid (CallX W u3 wr X k0 m0 (.slice ka nk kc) zRef l0 ctx o)) (fun _ i _ => np - (intOf i).toNat)
 case atStart => exact ⟨0, none, Nat.zero_le _, rfl, rfl, Z_ (by split <;> rfl), Z_ ⟨Chg.refl _ _, _, _, _, _, _, _, HX3.out, fun p h => by cases h⟩⟩
 case round =>
  obtain ⟨k, o, hk, rfl, rfl, HO, HCX⟩ := hrel; have HF4 := Z_ (HF.out.chg HCX.out.1 (by have := HXF.out; omega)); have HW4 := Z_ (HC3.out.ext.trans HCX.out.1 (fun i hi e => by have := HWX.out; omega)); by_cases hlt : k < np
  ·have hki : (k : Int) < (np : Int) := by omega
   have hkd : decide ((k : Int) < (np : Int)) = true := by simpa using hki
   have hkl : k < f.procs.length := by rw [HNP.out]; exact hlt
   obtain ⟨b, o9, rfl, hb, hin⟩ := HI.out k hkl; obtain ⟨b2, o2, e2, -, hin2⟩ := HV.out _ HW4.out k hkl; cases e2
   obtain ⟨j0, j1, ⟨pa, pcc, j2, j6, j7, j8⟩, -⟩ := hin; obtain ⟨l0', l1, ⟨pa', pcc', l2, -⟩, l3, l4, l5, -⟩ := hin2; have hpe : pa' = pa ∧ pcc' = pcc := by have := (HW4.out.cell (p := ⟨b, o9 + k * 6 + 2, none⟩) hb id).symm.trans l2; rw [j2] at this; cases this; exact ⟨rfl, rfl⟩
   obtain ⟨rfl, rfl⟩ := hpe; have HST := Z_ (proc_snoc (s := s) hkl); have HPI := Z_ j6; generalize f.procs[k] = y at *; obtain ⟨yn, yp, yl, yw, yg, yv⟩ := y; simp only at l0' l1 l2 l3 l4 l5 j6 j7; obtain ⟨nl, hnl⟩ : ∃ nl, yl.length = nl := ⟨_, rfl⟩; rw [hnl] at l2; have HNL := Z_ hnl; have HJ := Z_ (And.intro j7 j8); clear j0 j1 j2 j6 j7 j8 hb hnl; obtain ⟨hCX1, p0, p1, p2, p3, p4, p5, hCX2, hCX3⟩ := HCX.out; have HP5 := Z_ (Blk.made wr #[.string yn, .bool yp, .slice pa' nl pcc', .int .i64 yw, .bool yg, .int .i64 yv] 68); have HX5 := Z_ (hCX2.alloc (.cells #[.string yn, .bool yp, .slice pa' nl pcc', .int .i64 yw, .bool yg, .int .i64 yv] 68)); have HG5 := Z_ (hCX1.alloc (.cells #[.string yn, .bool yp, .slice pa' nl pcc', .int .i64 yw, .bool yg, .int .i64 yv] 68)); have HO5 := Z_ hCX3; obtain ⟨Pb, hPb⟩ : ∃ Pb, wr.heap.size = Pb := ⟨_, rfl⟩
   rw [hPb] at HP5; clear hCX1 hCX2 hCX3 HCX; go_upto_region 6 with (fail)
   try rw [hPb]
   generalize wr.alloc (.cells #[.string yn, .bool yp, .slice pa' nl pcc', .int .i64 yw, .bool yg, .int .i64 yv] 68) = u5 at *; clear l0' l1 l2 l3 l4 l5 hPb; have hpc := HP5.out.cell; cases is_ with
   | false =>
    have HON := Z_ (show (none : Option FProc) = o by have h := HO.out; rw [if_neg (by decide)] at h; exact h); go_wp2_with fail
    go_roundw
    case rel => exact ⟨k + 1, o, by omega, by go_num, rfl, Z_ (by first | exact HON.out | (rw [if_neg (by decide)]; exact HON.out)), Z_ ⟨HG5.out, _, _, _, _, _, _, HX5.out, HO5.out⟩⟩
    case measure => simp [intOf]; omega
   | true =>
    have HON := Z_ (show procN_ (f.procs.take k) s = o by have h := HO.out; rw [if_pos rfl] at h; exact h); by_cases hns : yn = s
    ·have hb1 : (yn.toList == s.toList) = true := by rw [hns]; simp
     have HPN := Z_ (show procN_ (f.procs.take (k + 1)) s = some ⟨yn, yp, yl, yw, yg, yv⟩ by rw [HST.out, if_pos hns]); have hxf := HX5.out.frozen; have hxl := HX5.out.lt; have hxc := HX5.out.cell; unfold trC at hxc; clear hns; go_wp2_with fail
     have HX9 := Z_ ((((((HX5.out.set 8 (.string yn)).set 9 (.bool yp)).set 10 (.slice pa' nl pcc')).set 11 (.int .i64 yw)).set 12 (.bool yg)).set 13 (.int .i64 yv)); have HG9 := Z_ (chg_set (chg_set (chg_set (chg_set (chg_set (chg_set HG5.out 8 (.string yn)) 9 (.bool yp)) 10 (.slice pa' nl pcc')) 11 (.int .i64 yw)) 12 (.bool yg)) 13 (.int .i64 yv)); go_roundw
     case rel => exact ⟨k + 1, some ⟨yn, yp, yl, yw, yg, yv⟩, by omega, by go_num, rfl, Z_ (by first | exact HPN.out | (rw [if_pos rfl]; exact HPN.out)), Z_ ⟨HG9.out, _, _, _, _, _, _, HX9.out, fun p h => by cases h; exact ⟨rfl, rfl, ⟨pa', pcc', by rw [HNL.out], HPI.out, HJ.out.1, HJ.out.2⟩, rfl, rfl, rfl⟩⟩⟩
     case measure => simp [intOf]; omega
    ·have hb1 : (yn.toList == s.toList) = false := by rw [ByteArray.toList_eq, ByteArray.toList_eq]; simpa using fun e => hns (ByteArray.ext (Array.toList_inj.1 e))
     have HPN := Z_ (show procN_ (f.procs.take (k + 1)) s = o by rw [HST.out, if_neg hns]; exact HON.out); clear hns; go_wp2_with fail
     go_roundw
     case rel => exact ⟨k + 1, o, by omega, by go_num, rfl, Z_ (by first | exact HPN.out | (rw [if_pos rfl]; exact HPN.out)), Z_ ⟨HG5.out, _, _, _, _, _, _, HX5.out, HO5.out⟩⟩
     case measure => simp [intOf]; omega
  ·obtain rfl : k = np := by omega
   have hkd : decide ((k : Int) < (k : Int)) = false := by simp
   have HO2 := Z_ (show (if is_ = true then procN_ f.procs s else none) = o by have h := HO.out; rw [List.take_of_length_le (by rw [HNP.out]; exact Nat.le_refl _)] at h; exact h); have HT2 := Z_ (show callG fm s ctx alone ks p o = T by have h := HT.out; rw [HO2.out, HFM.out] at h; exact h); have HGE := Z_ (fun (u' : World) (hg : Chg (fun i => i = X) u3 u') => (show Chg (fun i => i = X) u u' from (HE3.out.weak fun _ _ e => e.elim).then hg)); clear HO HT HO2 HV HI; cases o with
   | none =>
    have HTB := Z_ (show T = .bad 4 p from HT2.out.symm); have hg0 := HGE.out _ HCX.out.1; go_wp2_with fail
    refine (must_no 4 (p : Nat) _).mono ?_
    rintro e w8 ⟨rfl, rfl⟩; go_wp2_with fail
    exact ⟨rfl, hg0, by rw [HTB.out]⟩
   | some y =>
    obtain ⟨hCX1, p0, p1, p2, p3, p4, p5, hCX2, hCX3⟩ := HCX.out; obtain ⟨rfl, rfl, ⟨pa, pcc, rfl, hpi, hp1, hp2⟩, rfl, rfl, rfl⟩ := hCX3 _ rfl; obtain ⟨yn, yp, yl, yw, yg, yv⟩ := y; simp only at hpi hp1 hp2 hCX2; have HPI := Z_ (fun (w : World) (hE : Ext W w) => (hpi.mono hE.size fun _ _ _ hb h => IntIn.ext hE hb h : AllIn 1 IntIn w pa yl)); obtain ⟨nl, hnl⟩ : ∃ nl, yl.length = nl := ⟨_, rfl⟩; rw [hnl] at hp1 hCX2; have HNL := Z_ hnl; have HT3 := Z_ (show (if nl ≠ nk then (.bad 6 p : Rz (CRef × Int)) else if (yg || alone) = false then .bad 3 p else if argsB yl ks = false then .bad 7 p else if flowB yw [ctx] = false then .bad 7 p else .ok (⟨-1, fm, s, 0, 0⟩, yv)) = T by have h := HT2.out; unfold callG at h; simp only at h; rw [hnl, HNK.out] at h; exact h); have HX6 := Z_ hCX2; have HG6 := Z_ hCX1; clear hpi hnl hCX1 hCX2 hCX3 HT2 HCX; have hxc := HX6.out.cell; have hxf := HX6.out.frozen
    have hxl := HX6.out.lt; unfold trC at hxc; go_wp2_with fail
    refine (must_yes 4 (p : Nat) _).mono ?_
    rintro e w8 ⟨rfl, rfl⟩; have HQ7 := Z_ (Blk.made w8 #[.string yn, .bool yp, .slice pa nl pcc, .int .i64 yw, .bool yg, .int .i64 yv] 68); have HX7 := Z_ (HX6.out.alloc (.cells #[.string yn, .bool yp, .slice pa nl pcc, .int .i64 yw, .bool yg, .int .i64 yv] 68)); have HG7 := Z_ (HG6.out.alloc (.cells #[.string yn, .bool yp, .slice pa nl pcc, .int .i64 yw, .bool yg, .int .i64 yv] 68)); have HF7 := Z_ (HF4.out.alloc (.cells #[.string yn, .bool yp, .slice pa nl pcc, .int .i64 yw, .bool yg, .int .i64 yv] 68)); obtain ⟨Pb, hPb⟩ : ∃ Pb, w8.heap.size = Pb := ⟨_, rfl⟩; rw [hPb] at HQ7 hxl; go_upto_region 11 with (fail)
    try rw [hPb]
    generalize w8.alloc (.cells #[.string yn, .bool yp, .slice pa nl pcc, .int .i64 yw, .bool yg, .int .i64 yv] 68) = u7 at *; clear hxc hxf hPb HF4 HX6 HG6; have HXP := Z_ (show X < Pb from hxl); have hxf := HX7.out.frozen; have hx7 := HX7.out.lt; have hxc := HX7.out.cell; unfold trC at hxc; have hfc := HF7.out.cell; rw [HFM.out] at hfc; go_upto_region 12 with (fail)
    have HX8 := Z_ (((((HX7.out.set 3 (.int .i64 (-1))).set 4 (.string fm)).set 5 (.string s)).set 6 (.int .i64 0)).set 7 (.int .i64 0)); have HX8 := Z_ (show Blk _ X (trC k0 m0 (.slice ka nk kc) ⟨-1, fm, s, 0, 0⟩ (.string yn) (.bool yp) (.slice pa nl pcc) (.int .i64 yw) (.bool yg) (.int .i64 yv) l0 ctx) 345 from HX8.out); have HG8 := Z_ (chg_set (chg_set (chg_set (chg_set (chg_set HG7.out 3 (.int .i64 (-1))) 4 (.string fm)) 5 (.string s)) 6 (.int .i64 0)) 7 (.int .i64 0)); have HQ8 := Z_ (HQ7.out.chg (chg_set (chg_set (chg_set (chg_set (chg_set (Chg.refl (fun i => i = X) u7) 3 (.int .i64 (-1))) 4 (.string fm)) 5 (.string s)) 6 (.int .i64 0)) 7 (.int .i64 0)) (by have := HXP.out; omega)); clear hxf hx7 hxc hfc HX7 HG7 HQ7 HF7 hxl; generalize ((((u7.setCell ⟨X, 3, none⟩ (.int .i64 (-1))).setCell ⟨X, 4, none⟩ (.string fm)).setCell ⟨X, 5, none⟩ (.string s)).setCell ⟨X, 6, none⟩ (.int .i64 0)).setCell ⟨X, 7, none⟩ (.int .i64 0) = u8 at *
    have hxc := HX8.out.cell; unfold trC at hxc; have hqc := HQ8.out.cell; by_cases hlk : nl = nk
    ·subst hlk
     have hle : ((nl : Int) == (nl : Int)) = true := by simp
     have hle2 : (nl == nl) = true := by simp
     have HT4 := Z_ (show (if (yg || alone) = false then (.bad 3 p : Rz (CRef × Int)) else if argsB yl ks = false then .bad 7 p else if flowB yw [ctx] = false then .bad 7 p else .ok (⟨-1, fm, s, 0, 0⟩, yv)) = T by have h := HT3.out; rw [if_neg (fun h => h rfl)] at h; exact h); clear HT3; go_still_tail 10, (by kernel_rfl)
     go_wp2_with fail
     refine (must_yes 6 (p : Nat) _).mono ?_
     rintro e w9 ⟨rfl, rfl⟩; have HX9 := Z_ (show Blk u8.drew X _ _ from HX8.out); have HQ9 := Z_ (show Blk u8.drew Pb _ _ from HQ8.out); have HG9 := Z_ (HG8.out.drew); clear hxc hqc HX8 HQ8 HG8 hle hle2; generalize u8.drew = u9 at *; by_cases hga : (yg || alone) = true
     ·have HT5 := Z_ (show (if argsB yl ks = false then (.bad 7 p : Rz (CRef × Int)) else if flowB yw [ctx] = false then .bad 7 p else .ok (⟨-1, fm, s, 0, 0⟩, yv)) = T by have h := HT4.out; rw [if_neg (by rw [hga]; decide)] at h; exact h)
      have hqc := HQ9.out.cell; have hxc := HX9.out.cell; unfold trC at hxc; have hkey : yg = true ∨ (yg = false ∧ alone = true) := by cases yg <;> simp_all
      clear hga HT4; go_upto_region 13 with (fail)
      go_cut [] (fun w' => w' = u9)
      case first =>
       rcases hkey with rfl | ⟨rfl, rfl⟩
       all_goals
        go_wp2_with fail
        refine (must_yes 3 (p : Nat) _).mono ?_
        rintro e w9 ⟨rfl, rfl⟩; go_wp2_with fail
        go_meet
        exact rfl
      case rest =>
       clear hkey; generalize wc = w9 at *; subst hcut; go_wp2_with fail
       clear hqc hxc; go_loopw [83] (fun i wr => ∃ j : Nat, j ≤ nl ∧ i = .int .i64 (j : Nat) ∧ Hid (argsB (yl.take j) (ks.take j) = true) ∧ Hid (Ext w9 wr)) (fun i _ => nl - (intOf i).toNat)
       case atStart => exact ⟨0, Nat.zero_le _, rfl, Z_ (by simp [argsB]), Z_ (Chg.refl _ _)⟩
       case round =>
        obtain ⟨j, hj, rfl, HA, HZ⟩ := hrel; have HX5 := Z_ (HX9.out.ext HZ.out); have HQ5 := Z_ (HQ9.out.ext HZ.out); by_cases hlt : j < nl
        ·have hji : (j : Int) < (nl : Int) := by omega
         have hjd : decide ((j : Int) < (nl : Int)) = true := by simpa using hji
         have h1 : j < yl.length := by rw [HNL.out]; exact hlt
         have h2 : j < ks.length := by rw [HNK.out]; exact hlt
         obtain ⟨pb, po, rfl, hpb, hpin⟩ := HPI.out wr (HC3.out.ext.trans (HG9.out.ext HZ.out) (fun i hi e => by have := HWX.out; omega)) j h1; obtain ⟨kb, ko, rfl, hkb, hkin⟩ := HKS.out j h2; have hkin2 := trIn_keeps (keeps_chg (M := fun i => decide (i = X)) (HGE.out _ (HG9.out.ext HZ.out)) fun i _ e => by simp [e]) _ _ _ hkin; obtain ⟨v9, hv9, hta⟩ := trIn_keeps (keeps_bare _ _) _ _ _ hkin2; obtain ⟨g2, a2, c2, r0, r1, r2, r3, r4, r5, rfl, hg2, hc2, -⟩ := tr_cells hta; have q14 : wr.cell? ⟨g2, 14, none⟩ = some (.int .i64 ks[j].lab) := hc2 14 (by decide); have HSTEP := Z_ (args_step h1 h2); have HBADJ := Z_ (args_bad h1 h2); unfold IntIn at hpin; rw [Nat.mul_one] at hpin hv9; generalize yl[j] = y at hpin HSTEP HBADJ; generalize ks[j].lab = z at q14 HSTEP HBADJ; clear hc2 hta hkin hkin2 h1 h2; go_upto_region 17 with (fail)
         refine wp_region_weave [10, 11] (fun i v _ => v = ([.int .i64 (p : Nat), .pointer (some ⟨Pb, 2, none⟩), .slice (some ⟨pb, po, none⟩) nl pcc, .int .i64 (j : Nat), .pointer (some ⟨pb, po + j, none⟩), .int .i64 y, .pointer (some ⟨g2, 0, none⟩), .pointer (some ⟨g2, 0, none⟩), .pointer (some ⟨g2, 14, none⟩), .int .i64 z, undef, undef] : List Value).getD i undef) (FlowF wr y [z] 1) (fun _ _ => True) (frame := ?frak) (fun x => ?hfak) synw.mixed (by kernel_rfl) (by kernel_rfl) (fun _ _ _ _ h _ => h) ?h0k ?stk ?fink
         case hfak =>
          simp only [chain.frameOf, chain.fill, chain.setOpt, chain.dstOf, List.size_toArray, List.length_cons, List.length_nil, List.getElem?_toArray, List.getElem?_cons_succ, List.getElem?_cons_zero, List.setIfInBounds_toArray, List.set_cons_succ, List.set_cons_zero]; exact rfl
         case h0k => exact (Chg.refl _ _).drew
         case stk =>
          refine AllFrom.cons (fun x vs u hF hm hb hd K' hK' => ?sk0) (AllFrom.cons (fun x vs u hF hm hb hd K' hK' => ?sk1) (AllFrom.cons (fun x vs u hF hm hb hd K' hK' => ?sk2) (AllFrom.cons (fun x vs u hF hm hb hd K' hK' => ?sk3) (AllFrom.cons (fun x vs u hF hm hb hd K' hK' => ?sk4) (AllFrom.cons (fun x vs u hF hm hb hd K' hK' => ?sk5) (AllFrom.cons (fun x vs u hF hm hb hd K' hK' => ?sk6) (AllFrom.cons (fun x vs u hF hm hb hd K' hK' => ?sk7) (AllFrom.cons (fun x vs u hF hm hb hd K' hK' => ?sk8) (AllFrom.cons (fun x vs u hF hm hb hd K' hK' => ?sk9) (AllFrom.cons (fun x vs u hF hm hb hd K' hK' => ?sk10) (AllFrom.cons (fun x vs u hF hm hb hd K' hK' => ?sk11) (AllFrom.nil))))))))))))
          case sk0 =>
           have HF := Z_ hF; clear hd hm hb hF; go_simp; exact hK'.out _ _ _ (rfl) trivial ⟨rfl, HF.out⟩
          case sk1 =>
           have HF := Z_ hF; clear hd hm hb hF; go_simp; exact hK'.out _ _ _ (rfl) trivial ⟨rfl, HF.out⟩
          case sk2 =>
           have hE8 := FlowF.ext hF; have hq := (HQ5.out.ext hE8).cell; clear hE8; have y0 := hd 1 (by decide) (by kernel_rfl); replace y0 : x 89 = .pointer (some ⟨Pb, 2, none⟩) := y0; have HF := Z_ hF; clear hd hm hb hF; go_simp; exact hK'.out _ _ _ (by simp only [y0]; rfl) trivial ⟨rfl, HF.out⟩
          case sk3 =>
           have HF := Z_ hF; clear hd hm hb hF; go_simp; exact hK'.out _ _ _ (rfl) trivial ⟨rfl, HF.out⟩
          case sk4 =>
           have y0 := hd 2 (by decide) (by kernel_rfl); replace y0 : x 90 = .slice (some ⟨pb, po, none⟩) nl pcc := y0; have y1 := hd 3 (by decide) (by kernel_rfl); replace y1 : x 91 = .int .i64 (j : Nat) := y1; have HF := Z_ hF; clear hd hm hb hF; go_simp; exact hK'.out _ _ _ (by simp only [y0, y1]; rfl) trivial ⟨rfl, HF.out⟩
          case sk5 =>
           have hE8 := FlowF.ext hF; have hq := (hE8.cell (p := ⟨pb, po + j, none⟩) hpb id).trans hpin; clear hE8; have y0 := hd 4 (by decide) (by kernel_rfl); replace y0 : x 92 = .pointer (some ⟨pb, po + j, none⟩) := y0; have HF := Z_ hF; clear hd hm hb hF; go_simp; exact hK'.out _ _ _ (by simp only [y0]; rfl) trivial ⟨rfl, HF.out⟩
          case sk6 =>
           have HF := Z_ hF; clear hd hm hb hF; go_simp; exact hK'.out _ _ _ (rfl) trivial ⟨rfl, HF.out⟩
          case sk7 =>
           have y0 := hd 6 (by decide) (by kernel_rfl); replace y0 : x 94 = .pointer (some ⟨g2, 0, none⟩) := y0; have HF := Z_ hF; clear hd hm hb hF; go_simp; exact hK'.out _ _ _ (by simp only [y0]; rfl) trivial ⟨rfl, HF.out⟩
          case sk8 =>
           have y0 := hd 7 (by decide) (by kernel_rfl); replace y0 : x 95 = .pointer (some ⟨g2, 0, none⟩) := y0; have HF := Z_ hF; clear hd hm hb hF; go_simp; exact hK'.out _ _ _ (by simp only [y0]; rfl) trivial ⟨rfl, HF.out⟩
          case sk9 =>
           have hE8 := FlowF.ext hF; have hq := (hE8.cell (p := ⟨g2, 14, none⟩) hg2 id).trans q14; clear hE8; have y0 := hd 8 (by decide) (by kernel_rfl); replace y0 : x 96 = .pointer (some ⟨g2, 14, none⟩) := y0; have HF := Z_ hF; clear hd hm hb hF; go_simp; exact hK'.out _ _ _ (by simp only [y0]; rfl) trivial ⟨rfl, HF.out⟩
          case sk10 =>
           obtain rfl := List.eq_nil_of_length_eq_zero (hm 0 (by kernel_rfl)); have y0 := hd 9 (by decide) (by kernel_rfl); replace y0 : x 97 = .int .i64 z := y0; have HF := Z_ hF; clear hd hm hb hF; go_simp; exact hK'.out _ _ _ (by simp only [y0]; rfl) trivial (flow_made HF.out rfl)
          case sk11 =>
           obtain ⟨v0, rfl⟩ : ∃ v0, vs = [v0] := by match vs, hm 1 (by kernel_rfl) with | [v0], _ => exact ⟨_, rfl⟩
           have y0 := hd 0 (by decide) (by kernel_rfl); replace y0 : x 88 = .int .i64 (p : Nat) := y0; have y1 := hd 5 (by decide) (by kernel_rfl); replace y1 : x 93 = .int .i64 y := y1; have y2 := hd 10 (by decide) (by kernel_rfl) 98 (by kernel_rfl); replace y2 : x 98 = v0 := y2; obtain ⟨hE9, g9, rfl, hb9⟩ := hF; have HFL := Z_ (show Calls Tryz.prog 283 #[.int .i64 (p : Nat), .int .i64 (y), .slice (some ⟨g9, 0, none⟩) 1 1] u (FlowPost (y) [z] (p : Nat) u) from flows_any (p : Nat) (y) (some ⟨g9, 0, none⟩) 1 [z] u (flow_row hb9) (Nat.le_refl _) (by simp)); have HE9 := Z_ hE9; clear hd hm hb hE9 hb9; go_simp; refine HFL.out.mono ?_
           rintro e u2 ⟨hy1, hy2, rfl⟩; cases hfl : flowB (y) [z] with
           | true =>
            obtain rfl := hy1 hfl; exact hK'.out _ _ _ (by simp only [y0, y1, y2]; rfl) trivial ⟨hfl, HE9.out⟩
           | false =>
            obtain rfl := hy2 hfl; go_wp2_with fail
            exact ⟨rfl, (HGE.out _ ((HG9.out.ext HZ.out).ext HE9.out)), by rw [← HT5.out, if_pos (HBADJ.out hfl)]⟩
         case fink =>
          intro x9 vs9 w9 hl hF hk9; obtain ⟨v0, v1, rfl⟩ : ∃ v0 v1, vs9 = [v0, v1] := by match vs9, hl with | [v0, v1], _ => exact ⟨_, _, rfl⟩
          obtain ⟨hfl, hE9⟩ := hF; have HE9 := Z_ hE9; have HAJ := Z_ (show argsB (yl.take (j + 1)) (ks.take (j + 1)) = true by rw [HSTEP.out, HA.out, hfl]; rfl); clear hk9 hl hfl hE9; go_wp2_with fail
          go_roundw
          case rel => exact ⟨j + 1, by omega, by go_num, HAJ, Z_ (HZ.out.ext HE9.out)⟩
          case measure => simp [intOf]; omega
        ·obtain rfl : j = nl := by omega
         have hjd : decide ((j : Int) < (j : Int)) = false := by simp
         have HT6 := Z_ (show (if flowB yw [ctx] = false then (.bad 7 p : Rz (CRef × Int)) else .ok (⟨-1, fm, s, 0, 0⟩, yv)) = T by
          have h := HT5.out; have h3 := HA.out; rw [List.take_of_length_le (by rw [HNL.out]; exact Nat.le_refl _), List.take_of_length_le (by rw [HNK.out]; exact Nat.le_refl _)] at h3; rw [if_neg (by rw [h3]; decide)] at h; exact h)
         go_upto_region 19 with (fail)
         refine wp_region_weave [7, 8] (fun i v _ => v = ([.int .i64 (p : Nat), .pointer (some ⟨Pb, 3, none⟩), .int .i64 yw, .pointer (some ⟨X, 0, none⟩), .pointer (some ⟨X, 0, none⟩), .pointer (some ⟨X, 15, none⟩), .int .i64 ctx, undef, undef] : List Value).getD i undef) (FlowF wr yw [ctx] 1) (fun _ _ => True) (frame := ?fraw) (fun x => ?hfaw) synw.mixed (by kernel_rfl) (by kernel_rfl) (fun _ _ _ _ h _ => h) ?h0w ?stw ?finw
         case hfaw =>
          simp only [chain.frameOf, chain.fill, chain.setOpt, chain.dstOf, List.size_toArray, List.length_cons, List.length_nil, List.getElem?_toArray, List.getElem?_cons_succ, List.getElem?_cons_zero, List.setIfInBounds_toArray, List.set_cons_succ, List.set_cons_zero]; exact rfl
         case h0w => exact (Chg.refl _ _).drew
         case stw =>
          refine AllFrom.cons (fun x vs u hF hm hb hd K' hK' => ?sw0) (AllFrom.cons (fun x vs u hF hm hb hd K' hK' => ?sw1) (AllFrom.cons (fun x vs u hF hm hb hd K' hK' => ?sw2) (AllFrom.cons (fun x vs u hF hm hb hd K' hK' => ?sw3) (AllFrom.cons (fun x vs u hF hm hb hd K' hK' => ?sw4) (AllFrom.cons (fun x vs u hF hm hb hd K' hK' => ?sw5) (AllFrom.cons (fun x vs u hF hm hb hd K' hK' => ?sw6) (AllFrom.cons (fun x vs u hF hm hb hd K' hK' => ?sw7) (AllFrom.cons (fun x vs u hF hm hb hd K' hK' => ?sw8) (AllFrom.nil)))))))))
          case sw0 =>
           have HF := Z_ hF; clear hd hm hb hF; go_simp; exact hK'.out _ _ _ (rfl) trivial ⟨rfl, HF.out⟩
          case sw1 =>
           have HF := Z_ hF; clear hd hm hb hF; go_simp; exact hK'.out _ _ _ (rfl) trivial ⟨rfl, HF.out⟩
          case sw2 =>
           have hE8 := FlowF.ext hF; have hq := (HQ5.out.ext hE8).cell; clear hE8; have y0 := hd 1 (by decide) (by kernel_rfl); replace y0 : x 102 = .pointer (some ⟨Pb, 3, none⟩) := y0; have HF := Z_ hF; clear hd hm hb hF; go_simp; exact hK'.out _ _ _ (by simp only [y0]; rfl) trivial ⟨rfl, HF.out⟩
          case sw3 =>
           have HF := Z_ hF; clear hd hm hb hF; go_simp; exact hK'.out _ _ _ (rfl) trivial ⟨rfl, HF.out⟩
          case sw4 =>
           have y0 := hd 3 (by decide) (by kernel_rfl); replace y0 : x 104 = .pointer (some ⟨X, 0, none⟩) := y0; have HF := Z_ hF; clear hd hm hb hF; go_simp; exact hK'.out _ _ _ (by simp only [y0]; rfl) trivial ⟨rfl, HF.out⟩
          case sw5 =>
           have y0 := hd 4 (by decide) (by kernel_rfl); replace y0 : x 105 = .pointer (some ⟨X, 0, none⟩) := y0; have HF := Z_ hF; clear hd hm hb hF; go_simp; exact hK'.out _ _ _ (by simp only [y0]; rfl) trivial ⟨rfl, HF.out⟩
          case sw6 =>
           have hE8 := FlowF.ext hF; have hq := (HX5.out.ext hE8).cell; unfold trC at hq; clear hE8; have y0 := hd 5 (by decide) (by kernel_rfl); replace y0 : x 106 = .pointer (some ⟨X, 15, none⟩) := y0; have HF := Z_ hF; clear hd hm hb hF; go_simp; exact hK'.out _ _ _ (by simp only [y0]; rfl) trivial ⟨rfl, HF.out⟩
          case sw7 =>
           obtain rfl := List.eq_nil_of_length_eq_zero (hm 0 (by kernel_rfl)); have y0 := hd 6 (by decide) (by kernel_rfl); replace y0 : x 107 = .int .i64 ctx := y0; have HF := Z_ hF; clear hd hm hb hF; go_simp; exact hK'.out _ _ _ (by simp only [y0]; rfl) trivial (flow_made HF.out rfl)
          case sw8 =>
           obtain ⟨v0, rfl⟩ : ∃ v0, vs = [v0] := by match vs, hm 1 (by kernel_rfl) with | [v0], _ => exact ⟨_, rfl⟩
           have y0 := hd 0 (by decide) (by kernel_rfl); replace y0 : x 101 = .int .i64 (p : Nat) := y0; have y1 := hd 2 (by decide) (by kernel_rfl); replace y1 : x 103 = .int .i64 yw := y1; have y2 := hd 7 (by decide) (by kernel_rfl) 108 (by kernel_rfl); replace y2 : x 108 = v0 := y2; obtain ⟨hE9, g9, rfl, hb9⟩ := hF; have HFL := Z_ (show Calls Tryz.prog 283 #[.int .i64 (p : Nat), .int .i64 (yw), .slice (some ⟨g9, 0, none⟩) 1 1] u (FlowPost (yw) [ctx] (p : Nat) u) from flows_any (p : Nat) (yw) (some ⟨g9, 0, none⟩) 1 [ctx] u (flow_row hb9) (Nat.le_refl _) (by simp)); have HE9 := Z_ hE9; clear hd hm hb hE9 hb9; go_simp; refine HFL.out.mono ?_
           rintro e u2 ⟨hy1, hy2, rfl⟩; cases hfl : flowB (yw) [ctx] with
           | true =>
            obtain rfl := hy1 hfl; exact hK'.out _ _ _ (by simp only [y0, y1, y2]; rfl) trivial ⟨hfl, HE9.out⟩
           | false =>
            obtain rfl := hy2 hfl; go_wp2_with fail
            exact ⟨rfl, (HGE.out _ ((HG9.out.ext HZ.out).ext HE9.out)), by rw [← HT6.out, if_pos hfl]⟩
         case finw =>
          intro x9 vs9 w9 hl hF hk9; obtain ⟨v0, v1, rfl⟩ : ∃ v0 v1, vs9 = [v0, v1] := by match vs9, hl with | [v0, v1], _ => exact ⟨_, _, rfl⟩
          obtain ⟨hfl, hE9⟩ := hF; have HX6 := Z_ (HX5.out.ext hE9); have HG6 := Z_ (((HG9.out.ext HZ.out).ext hE9)); have hqc := (HQ5.out.ext hE9).cell; have hxf := HX6.out.frozen; have hxl := HX6.out.lt; have hxc := HX6.out.cell; unfold trC at hxc; have HT7 := Z_ (show T = .ok (⟨-1, fm, s, 0, 0⟩, yv) by rw [← HT6.out, if_neg (by rw [hfl]; decide)]); clear hk9 hl hfl hE9; go_wp2_with fail
          go_end0
          have HX7 := Z_ (HX6.out.set 14 (.int .i64 yv)); refine ⟨HGE.out _ (chg_set HG6.out 14 (.int .i64 yv)), ?_⟩
          rw [HT7.out]; exact ⟨rfl, ⟨by show fm.size ≤ maxLen; rw [← HFM.out]; exact HMS.out, HSZ.out⟩, _, _, _, _, _, _, HX7.out⟩
     ·obtain ⟨rfl, rfl⟩ : yg = false ∧ alone = false := by cases yg <;> cases alone <;> simp_all
      have HTB := Z_ (show T = .bad 3 p by have h := HT4.out; first | exact h.symm | (rw [if_pos rfl] at h; exact h.symm) | (simp at h; exact h.symm)); have hg0 := HGE.out _ HG9.out; have hqc := HQ9.out.cell; clear HT4 hga; go_wp2_with fail
      refine (must_no 3 (p : Nat) _).mono ?_
      rintro e w9 ⟨rfl, rfl⟩; go_wp2_with fail
      exact ⟨rfl, hg0, by rw [HTB.out]⟩
    ·have hle : ((nl : Int) == (nk : Int)) = false := beq_eq_false_iff_ne.2 (by omega)
     have hle2 : (nl == nk) = false := beq_eq_false_iff_ne.2 hlk; have HTB := Z_ (show T = .bad 6 p by have h := HT3.out; rw [if_pos hlk] at h; exact h.symm); have hg0 := HGE.out _ HG8.out; clear HT3 hlk; go_still_tail 10, (by kernel_rfl)
     go_wp2_with fail
     refine (must_no 6 (p : Nat) _).mono ?_
     rintro e w9 ⟨rfl, rfl⟩; go_wp2_with fail
     exact ⟨rfl, hg0.drew, by rw [HTB.out]⟩
end chk
end Go.Proofs.YtpcihajmcejliacGreatDoor
