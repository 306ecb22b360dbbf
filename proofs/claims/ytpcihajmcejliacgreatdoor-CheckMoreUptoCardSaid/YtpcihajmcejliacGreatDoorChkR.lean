/- The walk of the checker's statements and blocks, joined. The checker between procedures: the row of bodies. The walk of the checker's body: one procedure. The checker's recover. -/
import Derived.Defers
import Derived.Recover
import Derived.Test.YtpcihajmcejliacGreatDoorChkT
import Derived.Test.YtpcihajmcejliacGreatDoorChkV
namespace Go.Proofs.YtpcihajmcejliacGreatDoor
open Go.RowKit
namespace chk
open synw ofp
theorem both_any {W : World} {C Mo D K P B : Nat} {E : CEnv} {bod fac : Value} {dc : Array Value} {pr : FProc} {H : Nat → Bool} (hmv : MaxVar W) : ∀ x, IsNd x → (KdS x.kd → StatC W C Mo D K P B E bod fac dc pr H x) ∧ (x.kd = 6 → BlockC W C Mo D K P B E bod fac dc pr H x) := by
 refine nd_ind fun k t m l ih his => ⟨fun hk => stat_any hmv _ his hk fun y hy h6 => (ih y hy (his.kids y hy)).2 h6, fun h6 => block_any _ fun y hy => (ih y hy (his.kids y hy)).1 ?_⟩
 obtain rfl : k = 6 := h6; have hf := his.form; cases hf with
 | block hl => exact hl y hy
theorem block_of {W : World} {C Mo D K P B : Nat} {E : CEnv} {bod fac : Value} {dc : Array Value} {pr : FProc} {H : Nat → Bool} (hmv : MaxVar W) (x : Nd) (his : IsNd x) (h6 : x.kd = 6) : BlockC W C Mo D K P B E bod fac dc pr H x := (both_any hmv x his).2 h6
end chk
end Go.Proofs.YtpcihajmcejliacGreatDoor
namespace Go.Proofs.YtpcihajmcejliacGreatDoor
open Go.RowKit
namespace chk
open synw ofp
def OPrc (_ : FProc × Tr) (v : Value) (_ : World) : Prop := ∃ g, v = .pointer (some ⟨g, 0, none⟩)
theorem prc_keeps (x : FProc × Tr) (u : Value) (w w' : World) (_ : Keeps w w') (h : OPrc x u w) : OPrc x u w' := h
theorem prc_any (x : FProc × Tr) (u : Value) (w w' : World) (h : OPrc x u w) : OPrc x u w' := h
end chk
namespace ofp
theorem info_prc : (Tryz.prog.info? 218).map (fun i => (i.zero, i.size, i.bytes)) = some (some (.pointer none), 1, 8) := by kernel_rfl
end ofp
namespace chk
open synw ofp
structure MS (W u : World) (C Mo D K Bm : Nat) (E : CEnv) (v2 v3 v5 : Value) (at_ : Int) (bod fac : Value) (dc : Array Value) (bs : List (FProc × Tr)) : Prop where
 ext : Ext W u
 c : Blk u C #[.pointer (some ⟨Mo, 0, none⟩), .map (some K), v2, v3, .int .i64 at_, v5, .pointer none] 221
 mo : Blk u Mo #[.pointer (some ⟨D, 0, none⟩), bod, fac] 125
 d : Blk W D dc 128
 own : ∃ v0 v1 v2 d3 d4 d5 d6 d7 d8, dc = #[v0, v1, v2, d3, d4, d5, d6, d7, d8] ∧ FaceAt W E.own (.agg #[v0, v1, v2])
 k : ∃ n, n ≤ E.known.length ∧ chkmap.FMap W u K n E.known
 row : Grow 1 218 OPrc Bm u bod bs
 hC : W.heap.size ≤ C
 hM : W.heap.size ≤ Mo
 hK : W.heap.size ≤ K
 cB : C < Bm
 mB : Mo < Bm
 kB : K < Bm
 cM : C ≠ Mo
 cK : C ≠ K
 mK : Mo ≠ K
 hu : Bm ≤ u.heap.size
theorem MS.extend {W u u' : World} {C Mo D K Bm : Nat} {E : CEnv} {v2 v3 v5 : Value} {at_ : Int} {bod fac : Value} {dc : Array Value} {bs : List (FProc × Tr)} (h : MS W u C Mo D K Bm E v2 v3 v5 at_ bod fac dc bs) (hE : Ext u u') : MS W u' C Mo D K Bm E v2 v3 v5 at_ bod fac dc bs := by
 obtain ⟨n, hn, hk⟩ := h.k; exact ⟨h.ext.ext hE, h.c.ext hE, h.mo.ext hE, h.d, h.own, ⟨n, hn, hk.chg hE id⟩, h.row.chg prc_keeps hE (fun _ e => e.elim), h.hC, h.hM, h.hK, h.cB, h.mB, h.kB, h.cM, h.cK, h.mK, Nat.le_trans h.hu hE.size⟩
theorem MS.turnC {W u u' : World} {C Mo D K Bm : Nat} {E : CEnv} {v2 v3 v5 v2' v3' v5' : Value} {at_ at' : Int} {bod fac : Value} {dc : Array Value} {bs : List (FProc × Tr)} (h : MS W u C Mo D K Bm E v2 v3 v5 at_ bod fac dc bs) (hC : Chg (fun i => i = C) u u') (hc : Blk u' C #[.pointer (some ⟨Mo, 0, none⟩), .map (some K), v2', v3', .int .i64 at', v5', .pointer none] 221) : MS W u' C Mo D K Bm E v2' v3' v5' at' bod fac dc bs := by
 obtain ⟨n, hn, hk⟩ := h.k; have h1 := h.hC; have h2 := h.cB; have h3 := h.cM; have h4 := h.cK
 exact ⟨h.ext.trans hC (fun i hi e => by omega), hc, h.mo.chg hC (fun e => h3 e.symm), h.d, h.own, ⟨n, hn, hk.chg hC (fun e => h4 e.symm)⟩, h.row.chg prc_keeps hC (fun i e => by omega), h1, h.hM, h.hK, h2, h.mB, h.kB, h3, h4, h.mK, Nat.le_trans h.hu hC.size⟩
theorem MS.begin {W u : World} {C Mo D K Bm P B : Nat} {E : CEnv} {at_ : Int} {bod fac : Value} {dc pc : Array Value} {bs : List (FProc × Tr)} (h : MS W u C Mo D K Bm E (.slice none 0 0) (.int .i64 1) (.pointer (some ⟨P, 0, none⟩)) at_ bod fac dc bs) (hP : Blk u P pc 297) (hp : Bm ≤ P) (hB : P < B) (hu : B ≤ u.heap.size) : CS W u C Mo D K P B E (.slice none 0 0) [] 1 at_ bod fac dc pc := by
 have h1 := h.hC; have h2 := h.cB; have h3 := h.mB; have h4 := h.kB; have h5 := h.hM; have h6 := h.hK
 exact ⟨h.ext, h.c, h.mo, h.d, h.own, h.k, hP, Grow.nil _ _ _ _ _, h1, h.hM, h.hK, by omega, by omega, by omega, by omega, hB, h.cM, h.cK, by omega, h.mK, by omega, by omega, hu⟩
end chk
end Go.Proofs.YtpcihajmcejliacGreatDoor
namespace Go.Proofs.YtpcihajmcejliacGreatDoor
open Go.RowKit
namespace chk
open synw ofp
def BS (C Mo : Nat) (bod : Value) (i : Nat) : Prop := i = C ∨ i = Mo ∨ bod.ownBlock = some i
def BodyPost (W u : World) (C Mo D K Bm : Nat) (E : CEnv) (at_ : Nat) (bod fac : Value) (dc : Array Value) (bs : List (FProc × Tr)) (pr : FProc) (T : Rz Tr) (e : Ending) (u' : World) : Prop := Chg (BS C Mo bod) u u' ∧ match T with
 | .bad c p => e = .panicked (firstC c (p : Nat))
 | .ok t => e = .returned (.tuple #[]) ∧ ∃ v2 v3 v5 bod', MS W u' C Mo D K Bm E v2 v3 v5 (at_ : Nat) bod' fac dc (bs ++ [(pr, t)]) ∧ (∀ i, bod'.ownBlock = some i → bod.ownBlock = some i ∨ u.heap.size ≤ i)
theorem proc_form {t : ByteArray} {m : Int} {l : List Nd} (h : Form 4 t m l) : ∃ ps b, l = ps ++ [b] ∧ (∀ y ∈ ps, y.kd = 5) ∧ b.kd = 6 := by
 cases h with
 | proc ht h0 h1 hp hb => exact ⟨_, _, rfl, hp, hb⟩
set_option maxRecDepth 100000 in
theorem next_gen {u : World} {C : Nat} {x0 x1 x2 x3 x5 x6 : Value} {at_ : Int} (hc : Blk u C #[x0, x1, x2, x3, .int .i64 at_, x5, x6] 221) (h0 : 0 ≤ at_) (h1 : at_ ≤ 100000) :
  Calls Tryz.prog 108 #[.pointer (some ⟨C, 0, none⟩)] u fun e u' => e = .returned (.int .i64 at_) ∧ Chg (fun i => i = C) u u' ∧ Blk u' C #[x0, x1, x2, x3, .int .i64 (at_ + 1), x5, x6] 221 := by
 have HC := Z_ hc; have q := hc.cell; have qf := hc.frozen; have ql := hc.lt; have hw : IntKind.i64.wrap (at_ + 1) = at_ + 1 := wrap_small _ (by omega) (by omega); have hw2 : IntKind.i64.wrap (at_ + 1 - 1) = at_ := by rw [wrap_small _ (by omega) (by omega)]; omega
 have hw3 : at_ + 1 - 1 = at_ := by omega
 clear hc; go_enter Tryz.func108, Tryz.ntmps108
 go_wp2_with fail
 go_ret
 exact ⟨by first | rfl | (rw [hw3]), chg_set (Chg.refl _ _) 4 _, HC.out.set 4 (.int .i64 (at_ + 1))⟩
def BX (W u0 u : World) (C Mo D K P Nb : Nat) (E : CEnv) (L : List Loc) (q : Int) (bod fac : Value) (dc : Array Value) (pr : FProc) (nc qc : Array Value) : Prop := ∃ vl pc, CS W u C Mo D K P (P + 1) E vl L 1 q bod fac dc pc ∧ PcOk pr pc ∧ Blk u Nb nc 24 ∧ Blk u (Nb + 1) qc 68 ∧ Chg (fun i => i = C) u0 u ∧ u0.heap.size = Nb ∧ C < Nb ∧ Nb + 1 < P
theorem BX.far {W u : World} {C Mo D K P : Nat} {E : CEnv} {vl : Value} {L : List Loc} {q : Int} {bod fac : Value} {dc pc : Array Value} {Nb : Nat} (h1 : CS W u C Mo D K P (P + 1) E vl L 1 q bod fac dc pc) (_h7 : C < Nb) (h8 : Nb + 1 < P) : ∀ i, i ≤ Nb + 1 → LS C P vl i → i = C := fun i hi e => by
 rcases e with e | e | e
 ·exact e
 ·omega
 ·have := grow_own h1.loc i e; omega
theorem BX.call {W u0 u u' : World} {C Mo D K P Nb : Nat} {E : CEnv} {vl vl' : Value} {L L' : List Loc} {q q' : Int} {bod fac : Value} {dc pc pc' : Array Value} {pr : FProc} {nc qc : Array Value} (h1 : CS W u C Mo D K P (P + 1) E vl L 1 q bod fac dc pc) (h3 : Blk u Nb nc 24) (h4 : Blk u (Nb + 1) qc 68) (h5 : Chg (fun i => i = C) u0 u) (h6 : u0.heap.size = Nb ∧ C < Nb ∧ Nb + 1 < P) (hC : Chg (LS C P vl) u u') (hcs : CS W u' C Mo D K P (P + 1) E vl' L' 1 q' bod fac dc pc') (hpc : PcOk pr pc') : BX W u0 u' C Mo D K P Nb E L' q' bod fac dc pr nc qc := by
 have hf := BX.far h1 h6.2.1 h6.2.2; have h7 := h6.1; have h8 := h6.2.1
 exact ⟨vl', pc', hcs, hpc, h3.chg hC (fun e => by have := hf _ (by omega) e; omega), h4.chg hC (fun e => by have := hf _ (by omega) e; omega), h5.trans hC (fun i hi e => hf i (by omega) e), h6⟩
theorem BX.putP {W u0 u : World} {C Mo D K P Nb : Nat} {E : CEnv} {L : List Loc} {q : Int} {bod fac : Value} {dc : Array Value} {pr : FProc} {nc qc : Array Value} (h : BX W u0 u C Mo D K P Nb E L q bod fac dc pr nc qc) (g : Nat) : BX W u0 (u.setCell ⟨P, 6, none⟩ (.pointer (some ⟨g, 0, none⟩))) C Mo D K P Nb E L q bod fac dc pr nc qc := by
 obtain ⟨vl, pc, h1, ⟨p1, p2, p3, b, mo, rfl, hm0, hm1⟩, h3, h4, h5, h6⟩ := h; have hC := chg_set (S := P) (Chg.refl _ u) 6 (.pointer (some ⟨g, 0, none⟩)); exact BX.call h1 h3 h4 h5 h6 (hC.weak fun _ _ e => .inr (.inl e)) (h1.turnL (hC.weak fun _ _ e => .inr (.inl e)) (h1.c.chg hC h1.cP) (h1.p.set 6 _) (h1.loc.chg loc_keeps hC fun i e => by omega)) ⟨p1, p2, p3, _, mo, rfl, hm0, hm1⟩
theorem BX.p {W u0 u : World} {C Mo D K P Nb : Nat} {E : CEnv} {L : List Loc} {q : Int} {bod fac : Value} {dc : Array Value} {pr : FProc} {nc qc : Array Value} (h : BX W u0 u C Mo D K P Nb E L q bod fac dc pr nc qc) : ∃ p1 p2 p3 b mo, Blk u P #[.string pr.name, p1, p2, p3, .bool pr.gives, .int .i64 pr.given, b, .int .i64 mo] 297 := by
 obtain ⟨vl, pc, h1, ⟨p1, p2, p3, b, mo, rfl, -⟩, -⟩ := h; exact ⟨p1, p2, p3, b, mo, h1.p⟩
def MB (u0 u : World) (C Mo D K P Bm : Nat) (vl : Value) (at_ : Int) (bod fac : Value) (rN r : Value) (lq : List (FProc × Tr)) : Prop :=
 Chg (fun i => i = Mo ∨ bod.ownBlock = some i) u0 u ∧ Blk u C (ckC Mo K vl 1 at_ P) 221 ∧ Blk u Mo #[.pointer (some ⟨D, 0, none⟩), rN, fac] 125 ∧ GrowX (fun _ => false) 1 218 OPrc Bm u r lq ∧ (∀ i, r.ownBlock = some i → bod.ownBlock = some i ∨ u0.heap.size ≤ i)
def retB (l : List Nd) : Bool := match l.getLast? with
 | some s => decide (s.kd = 14)
 | none => false
theorem body_eq (E : CEnv) (pr : FProc) (x : Nd) (at_ : Nat) : bodyF E pr x at_ = (blF E pr pr.writes true (parL x.kids.dropLast) 1 (x.kids.getLastD zeroN) (at_ + 1 + x.kids.dropLast.length)).bind fun b => if (pr.gives && !(retB (x.kids.getLastD zeroN).kids)) = true then .bad 2 at_ else .ok b := rfl
def BodF (pre post : World → Prop) (RY : Rz Tr) : List Value → World → Prop
 | [], u => pre u
 | v :: _, u => ∃ t g, RY = .ok t ∧ v = .pointer (some ⟨g, 0, none⟩) ∧ post u
theorem BodF.any {pre post : World → Prop} {RY : Rz Tr} {vs : List Value} {u : World} {Q : Prop} (h : BodF pre post RY vs u) (h1 : pre u → Q) (h2 : post u → Q) : Q := by
 match vs, h with
 | [], h => exact h1 h
 | _ :: _, ⟨_, _, _, _, h⟩ => exact h2 h
theorem BX.ptr {W u0 u : World} {C Mo D K P Nb : Nat} {E : CEnv} {L : List Loc} {q : Int} {bod fac : Value} {dc : Array Value} {pr : FProc} {nc qc : Array Value} (h : BX W u0 u C Mo D K P Nb E L q bod fac dc pr nc qc) : u.cell? ⟨C, 5, none⟩ = some (.pointer (some ⟨P, 0, none⟩)) := by
 obtain ⟨vl, pc, h1, -⟩ := h; exact (h1.c.cell 5).trans rfl
theorem BX.qb {W u0 u : World} {C Mo D K P Nb : Nat} {E : CEnv} {L : List Loc} {q : Int} {bod fac : Value} {dc : Array Value} {pr : FProc} {nc qc : Array Value} (h : BX W u0 u C Mo D K P Nb E L q bod fac dc pr nc qc) : ∀ o9, u.cell? ⟨Nb + 1, o9, none⟩ = qc[o9]? := by
 obtain ⟨vl, pc, h1, h2, h3, h4, -⟩ := h; exact h4.cell
set_option maxRecDepth 100000 in
set_option maxHeartbeats 32000000 in
theorem body_any {W ua : World} {C Mo D K Bm : Nat} {E : CEnv} {v2 v3 v5 : Value} {bod fac : Value} {dc : Array Value} {bs : List (FProc × Tr)} {H : Nat → Bool} {p : Nat} (hmv : MaxVar W) (hms : MS W ua C Mo D K Bm E v2 v3 v5 (p : Nat) bod fac dc bs) (x : Nd) (his : IsNd x) (hk : x.kd = 4) (v : Value) (hnd : NdAt (hide H W) x v) (hsz : p + szF x ≤ 1000) (hpl : x.kids.dropLast.length ≤ 5) (pr : FProc) (pb gv : Bool) (hgv : pr.gives = gv) (pa : Option Addr) (pcc : Nat) (hbs : bs.length ≤ 1000) :
  Calls Tryz.prog 110 #[.pointer (some ⟨C, 0, none⟩), v, .agg #[.string pr.name, .bool pb, .slice pa pr.params.length pcc, .int .i64 pr.writes, .bool gv, .int .i64 pr.given]] ua (BodyPost W ua C Mo D K Bm E (p + szF x) bod fac dc bs pr (bodyF E pr x p)) := by
 obtain ⟨k, t, m, l⟩ := x; obtain rfl : k = 4 := hk; obtain ⟨ps, bb, rfl, hps, hb6⟩ := proc_form his.form; rw [ndAt_mk] at hnd; obtain ⟨a, cc, rfl, hl1, hl2, hl3, hl4⟩ := hnd; obtain ⟨T, hT⟩ : ∃ T, bodyF E pr (.mk 4 t m (ps ++ [bb])) p = T := ⟨_, rfl⟩; rw [hT]; have HT := Z_ hT; have HGV := Z_ hgv; have HPS := Z_ hps; have HB6 := Z_ hb6; have HIS := Z_ his.kids; obtain ⟨n, hn⟩ : ∃ n, ps.length = n := ⟨_, rfl⟩; obtain ⟨N, hN⟩ : ∃ N, (ps ++ [bb]).length = N := ⟨_, rfl⟩; have hNn : N = n + 1 := by rw [← hN, ← hn]; simp
 have hn5 : n ≤ 5 := by have h : (ps ++ [bb]).dropLast.length ≤ 5 := hpl; rw [← hn]; simpa using h
 subst hNn; rw [hN] at hl1 ⊢; have HNP := Z_ hn; have HI := Z_ (fun (ua : World) (hE : Ext W ua) => hl4.keeps (keeps_chg hE fun i _ e => e.elim) fun b o y => ndIn_keeps (keeps_chg hE fun i _ e => e.elim) b o y); have hE0 := ((Chg.refl (fun _ => False) ua).alloc (.cells #[.int .i64 4, .string t, .int .i64 m, .slice a (n + 1) cc] 24)).alloc (.cells #[.string pr.name, .bool pb, .slice pa pr.params.length pcc, .int .i64 pr.writes, .bool gv, .int .i64 pr.given] 68); have HM := Z_ (hms.extend hE0); have HMS0 := Z_ hms; have HBS := Z_ hbs; have HE := Z_ hE0; have HB := Z_ ((Blk.made ua #[.int .i64 4, .string t, .int .i64 m, .slice a (n + 1) cc] 24).alloc (.cells #[.string pr.name, .bool pb, .slice pa pr.params.length pcc, .int .i64 pr.writes, .bool gv, .int .i64 pr.given] 68)); have HQ := Z_ (Blk.made (ua.alloc (.cells #[.int .i64 4, .string t, .int .i64 m, .slice a (n + 1) cc] 24)) #[.string pr.name, .bool pb, .slice pa pr.params.length pcc, .int .i64 pr.writes, .bool gv, .int .i64 pr.given] 68)
 obtain ⟨Nb, hNb⟩ : ∃ Nb, ua.heap.size = Nb := ⟨_, rfl⟩; have hQb : (ua.alloc (.cells #[.int .i64 4, .string t, .int .i64 m, .slice a (n + 1) cc] 24)).heap.size = Nb + 1 := by rw [← hNb]; exact Array.size_push ..
 rw [hNb] at HB; rw [hQb] at HQ; have HNB := Z_ hNb; have HBN := Z_ (show Bm ≤ Nb by rw [← hNb]; exact hms.hu); have HSZ := Z_ hsz; have hp : p ≤ 1000 := by omega
 clear hT hps hb6 his hn hN hpl hl4 hms hE0 hsz hgv; go_enter Tryz.func110, Tryz.ntmps110
 go_upto_region 1 with (fail)
 try rw [hQb]
 try rw [hNb]
 clear hQb hNb; generalize (ua.alloc (.cells #[.int .i64 4, .string t, .int .i64 m, .slice a (n + 1) cc] 24)).alloc (.cells #[.string pr.name, .bool pb, .slice pa pr.params.length pcc, .int .i64 pr.writes, .bool gv, .int .i64 pr.given] 68) = u1 at *; go_wp2_with fail
 refine (next_gen HM.out.c (by omega) (by omega)).mono ?_
 rintro e w2 ⟨rfl, hC2, hB2⟩; have HM2 := Z_ (HM.out.turnC hC2 hB2); have HB2 := Z_ (HB.out.chg hC2 (by have := HM.out.cB; have := HBN.out; omega)); have HQ2 := Z_ (HQ.out.chg hC2 (by have := HM.out.cB; have := HBN.out; omega)); have HE2 := Z_ ((HE.out.weak (S' := fun i => i = C) fun _ _ e => e.elim).then hC2); clear hC2 hB2 HM HB HQ HE; have hqc := HQ2.out.cell; have hcc := HM2.out.c.cell; have hcf := HM2.out.c.frozen; have hcl := HM2.out.c.lt; go_upto_region 4 with (fail)
 obtain ⟨P, hP⟩ : ∃ P, w2.heap.size = P := ⟨_, rfl⟩; obtain ⟨w3, hw3⟩ : ∃ w3, ((w2.setCell ⟨C, 5, none⟩ (.pointer (some ⟨P, 0, none⟩))).setCell ⟨C, 2, none⟩ (.slice none 0 0)).setCell ⟨C, 3, none⟩ (.int .i64 1) = w3 := ⟨_, rfl⟩; have hC3 := chg_set (chg_set (chg_set (S := C) (Chg.refl _ w2) 5 (.pointer (some ⟨P, 0, none⟩))) 2 (.slice none 0 0)) 3 (.int .i64 1); have hB3 := ((HM2.out.c.set 5 (.pointer (some ⟨P, 0, none⟩))).set 2 (.slice none 0 0)).set 3 (.int .i64 1); rw [hw3] at hC3 hB3; have HM3 := Z_ ((HM2.out.turnC hC3 hB3).extend ((Chg.refl (fun _ => False) w3).alloc (.cells #[.string pr.name, .bool pb, .slice pa pr.params.length pcc, .int .i64 pr.writes, .bool gv, .int .i64 pr.given, .pointer none, .int .i64 0] 297))); have hP3 : w3.heap.size = P := by rw [← hw3, ← hP]; simp
 rw [hP, hw3]; have hHP := Blk.made w3 #[.string pr.name, .bool pb, .slice pa pr.params.length pcc, .int .i64 pr.writes, .bool gv, .int .i64 pr.given, .pointer none, .int .i64 0] 297; rw [hP3] at hHP; have HP4 := Z_ hHP; have HB4 := Z_ ((HB2.out.chg hC3 (by have := HM2.out.cB; have := HBN.out; omega)).alloc (.cells #[.string pr.name, .bool pb, .slice pa pr.params.length pcc, .int .i64 pr.writes, .bool gv, .int .i64 pr.given, .pointer none, .int .i64 0] 297)); have HQ4 := Z_ ((HQ2.out.chg hC3 (by have := HM2.out.cB; have := HBN.out; omega)).alloc (.cells #[.string pr.name, .bool pb, .slice pa pr.params.length pcc, .int .i64 pr.writes, .bool gv, .int .i64 pr.given, .pointer none, .int .i64 0] 297)); have HE4c := Z_ ((HE2.out.then hC3).alloc (.cells #[.string pr.name, .bool pb, .slice pa pr.params.length pcc, .int .i64 pr.writes, .bool gv, .int .i64 pr.given, .pointer none, .int .i64 0] 297))
 have hPN : Nb + 1 < P := by rw [← hP]; exact HQ2.out.lt
 clear hw3 hC3 hB3 hHP hP3 hP HB2 HQ2 HM2 HE2 hqc hcc hcf hcl; generalize w3.alloc (.cells #[.string pr.name, .bool pb, .slice pa pr.params.length pcc, .int .i64 pr.writes, .bool gv, .int .i64 pr.given, .pointer none, .int .i64 0] 297) = u4 at *; have HC4 := Z_ (HM3.out.begin (B := P + 1) HP4.out (by have := HBN.out; omega) (by omega) HP4.out.lt); have HX4 := Z_ (show BX W ua u4 C Mo D K P Nb E [] ((p : Nat) + 1) bod fac dc pr #[.int .i64 4, .string t, .int .i64 m, .slice a (n + 1) cc] #[.string pr.name, .bool pb, .slice pa pr.params.length pcc, .int .i64 pr.writes, .bool gv, .int .i64 pr.given] from ⟨_, _, HC4.out, ⟨_, _, _, _, _, by rw [HGV.out], Int.le_refl _, by decide⟩, HB4.out, HQ4.out, HE4c.out, HNB.out, by have := HM3.out.cB; have := HBN.out; omega, hPN⟩); clear HC4 HP4 HB4 HQ4 HE4c HM3; obtain ⟨-, -, -, -, hbb, -, -⟩ := HX4.out; have hbc := hbb.cell; clear hbb
 have hwn : IntKind.i64.wrap ((n : Int) + 1 - 1) = (n : Int) := by rw [wrap_small _ (by omega) (by omega)]; omega
 have hni : (n : Int) ≤ (cc : Int) := by omega
 have hn0 : (0 : Int) ≤ (n : Int) := by omega
 go_wp2_with fail
 clear hbc hwn hni hn0; go_loopw [35] (fun i wr => ∃ j : Nat, j ≤ n ∧ i = .int .i64 (j : Nat) ∧ Hid (BX W ua wr C Mo D K P Nb E (parL (ps.take j)) ((p : Nat) + 1 + (j : Int)) bod fac dc pr #[.int .i64 4, .string t, .int .i64 m, .slice a (n + 1) cc] #[.string pr.name, .bool pb, .slice pa pr.params.length pcc, .int .i64 pr.writes, .bool gv, .int .i64 pr.given])) (fun i _ => n - (intOf i).toNat)
 case atStart => exact ⟨0, Nat.zero_le _, rfl, by rw [List.take_zero]; exact HX4⟩
 clear HX4
 case round =>
  obtain ⟨j, hj, rfl, HX⟩ := hrel; by_cases hlt : j < n
  ·have hji : (j : Int) < (n : Int) := by omega
   have hjd : decide ((j : Int) < (n : Int)) = true := by simpa using hji
   have hjp : j < ps.length := by rw [HNP.out]; exact hlt
   have hjl : j < (ps ++ [bb]).length := by rw [List.length_append, HNP.out]; simp; omega
   obtain ⟨b, o, rfl, hb, uv, hu, hus, hcl⟩ := HI.out W (Chg.refl _ _) j hjl; rw [hide_size] at hb; have hy5 := HPS.out _ (List.getElem_mem hjp); have hyi := HIS.out _ (List.getElem_mem hjl); have hye : (ps ++ [bb])[j] = ps[j] := List.getElem_append_left hjp; have HPL := Z_ (show parL (ps.take (j + 1)) = parL (ps.take j) ++ [⟨ps[j].tx, ps[j].nm, 1⟩] by unfold parL; rw [List.take_succ_eq_append_getElem hjp, List.map_append]; rfl); rw [hye] at hu hyi; generalize ps[j] = y at hu hy5 hyi HPL; obtain ⟨k1, t1, m1, l1⟩ := y; obtain rfl : k1 = 5 := hy5; rw [ndAt_mk] at hu; obtain ⟨a1, c1, rfl, -, -, hts, -⟩ := hu; have HTS := Z_ hts; have HX8 := Z_ HX.out; obtain ⟨vl9, pc9, hcs9, hpc9, hnb9, hqb9, hch9, hsz9⟩ := HX8.out; have hE := hcs9.ext; have q0 : wr.cell? ⟨b, o + j * 4, none⟩ = some (.int .i64 5) := (hE.cell (p := ⟨b, o + j * 4, none⟩) hb id).trans ((keeps_bare _ W).2 _ _ ((hcl 0 (by decide)).trans rfl))
   have q1 : wr.cell? ⟨b, o + j * 4 + 1, none⟩ = some (.string t1) := (hE.cell (p := ⟨b, o + j * 4 + 1, none⟩) hb id).trans ((keeps_bare _ W).2 _ _ ((hcl 1 (by decide)).trans rfl)); have q2 : wr.cell? ⟨b, o + j * 4 + 2, none⟩ = some (.int .i64 m1) := (hE.cell (p := ⟨b, o + j * 4 + 2, none⟩) hb id).trans ((keeps_bare _ W).2 _ _ ((hcl 2 (by decide)).trans rfl)); have q3 : wr.cell? ⟨b, o + j * 4 + 3, none⟩ = some (.slice a1 l1.length c1) := (hE.cell (p := ⟨b, o + j * 4 + 3, none⟩) hb id).trans ((keeps_bare _ W).2 _ _ ((hcl 3 (by decide)).trans rfl)); have HK := Z_ (Blk.made wr #[.int .i64 5, .string t1, .int .i64 m1, .slice a1 l1.length c1] 24); obtain ⟨Kb, hKb⟩ : ∃ Kb, wr.heap.size = Kb := ⟨_, rfl⟩; rw [hKb] at HK; have hPK : P + 1 ≤ Kb := by rw [← hKb]; exact hcs9.hu
   have HCS5 := Z_ (hcs9.extend ((Chg.refl (fun _ => False) wr).alloc (.cells #[.int .i64 5, .string t1, .int .i64 m1, .slice a1 l1.length c1] 24))); have HB5 := Z_ (hnb9.alloc (.cells #[.int .i64 5, .string t1, .int .i64 m1, .slice a1 l1.length c1] 24)); have HQ5 := Z_ (hqb9.alloc (.cells #[.int .i64 5, .string t1, .int .i64 m1, .slice a1 l1.length c1] 24)); have HG5 := Z_ (hch9.alloc (.cells #[.int .i64 5, .string t1, .int .i64 m1, .slice a1 l1.length c1] 24)); have HZ := Z_ hsz9; have HPC9 := Z_ hpc9; have hOW : ∀ i, vl9.ownBlock = some i → i < Kb := fun i e => by rw [← hKb]; exact (grow_own hcs9.loc i e).2
   have HOW := Z_ hOW; clear hcs9 hnb9 hqb9 hch9 hsz9 hpc9 hOW hE hts hcl hus hyi hye HX; go_upto_region 8 with (fail)
   try rw [hKb]
   generalize wr.alloc (.cells #[.int .i64 5, .string t1, .int .i64 m1, .slice a1 l1.length c1] 24) = u5 at *; clear q0 q1 q2 q3 hKb; go_wp2_with fail
   refine (next_any HCS5.out.c (by omega) (by omega)).mono ?_
   rintro e w2 ⟨rfl, hC2, hB2⟩; have HCS6 := Z_ (HCS5.out.turnC hC2 hB2); have HB6 := Z_ (HB5.out.chg hC2 (by have := HZ.out; omega)); have HQ6 := Z_ (HQ5.out.chg hC2 (by have := HZ.out; omega)); have HG6 := Z_ (HG5.out.then hC2); have HK6 := Z_ (HK.out.chg hC2 (by have := HZ.out; omega)); clear hC2 hB2 HCS5 HB5 HQ5 HG5 HK; have hkc := HK6.out.cell; go_wp2_with fail
   have hpl5 : (parL (ps.take j)).length ≤ 100 := by simp [parL]; omega
   refine (make_any HCS6.out HPC9.out hpl5 t1 HTS.out m1).mono ?_
   rintro e w3 ⟨vl7, pc7, rfl, hC7, hcs7, hpc7, -⟩; have HX7 := Z_ (BX.call HCS6.out HB6.out HQ6.out HG6.out HZ.out hC7 hcs7 hpc7); clear hC7 hcs7 hpc7 hpl5; go_wp2_with fail
   go_roundw
   case rel => exact ⟨j + 1, by omega, by go_num, by rw [HPL.out]; have := HX7; rw [show ((p : Nat) : Int) + 1 + ((j + 1 : Nat) : Int) = (p : Int) + 1 + (j : Int) + 1 by omega]; exact this⟩
   case measure => simp [intOf]; omega
  ·obtain rfl : j = n := by omega
   have hjd : decide ((j : Int) < (j : Int)) = false := by simp
   have hjl : j < (ps ++ [bb]).length := by rw [List.length_append, HNP.out]; simp
   obtain ⟨b, o, rfl, hb, uv, hu, hus, hcl⟩ := HI.out W (Chg.refl _ _) j hjl; rw [hide_size] at hb; have hyi := HIS.out _ (List.getElem_mem hjl); have hye : (ps ++ [bb])[j] = bb := by have h := HNP.out; subst h; simp
   rw [hye] at hu hyi; obtain ⟨q1, hq1⟩ : ∃ q1 : Nat, p + 1 + j = q1 := ⟨_, rfl⟩; have HX9 := Z_ (show BX W ua wr C Mo D K P Nb E (parL ps) ((q1 : Nat) : Int) bod fac dc pr #[.int .i64 4, .string t, .int .i64 m, .slice (some ⟨b, o, none⟩) (j + 1) cc] #[.string pr.name, .bool pb, .slice pa pr.params.length pcc, .int .i64 pr.writes, .bool gv, .int .i64 pr.given] from by have h := HX.out; rw [List.take_of_length_le (by rw [HNP.out]; exact Nat.le_refl _), show ((p : Nat) : Int) + 1 + (j : Int) = ((q1 : Nat) : Int) by omega] at h; exact h)
   have hq2 : q1 + szF bb = p + szF (.mk 4 t m (ps ++ [bb])) := by
    have h1 : ∀ l : List Nd, (∀ y ∈ l, y.kd = 5) → (∀ y ∈ l, IsNd y) → szL (l ++ [bb]) = l.length + szF bb := fun l => by
     induction l with
     | nil => intro _ _; simp [szL]
     | cons z r ih =>
      intro h5 hi; obtain ⟨k9, t9, m9, l9⟩ := z; obtain rfl : k9 = 5 := h5 _ (List.mem_cons_self ..); have hf := (hi _ (List.mem_cons_self ..)).form; rw [List.cons_append]; simp only [szL, List.length_cons]; rw [ih (fun y hy => h5 y (List.mem_cons_of_mem _ hy)) (fun y hy => hi y (List.mem_cons_of_mem _ hy))]; cases hf
      simp only [szF, szL]; omega
    have h2 := h1 ps HPS.out (fun y hy => HIS.out y (List.mem_append_left _ hy)); simp only [szF]; rw [h2, HNP.out]; omega
   have HQ2 := Z_ hq2; rw [← hq2] at HSZ; obtain ⟨RY, hRY⟩ : ∃ RY, blF E pr pr.writes true (parL ps) 1 bb q1 = RY := ⟨_, rfl⟩; have hT2 := HT.out; rw [body_eq] at hT2; simp only [Nd.kids, List.dropLast_concat, List.getLastD_concat, HNP.out, hq1, hRY] at hT2; have HT2 := Z_ hT2; have HRY := Z_ hRY; have hb6 := HB6.out; obtain ⟨k1, t1, m1, l1⟩ := bb; obtain rfl : k1 = 6 := hb6; have HBI := Z_ hyi; have HU := Z_ hu; rw [ndAt_mk] at hu; obtain ⟨a1, c1, rfl, hk1, hk2, -, hk4⟩ := hu; obtain ⟨N1, hN1⟩ : ∃ N1, l1.length = N1 := ⟨_, rfl⟩; rw [hN1] at hk1 hcl HU; have HN1 := Z_ hN1; have HI1 := Z_ (fun (ua : World) (hE : Ext W ua) => hk4.keeps (keeps_chg hE fun i _ e => e.elim) fun b o y => ndIn_keeps (keeps_chg hE fun i _ e => e.elim) b o y); obtain ⟨vl9, pc9, hcs9, hpc9, hnb9, hqb9, hch9, hsz9⟩ := HX9.out; have hE := hcs9.ext; have q0 : wr.cell? ⟨b, o + j * 4, none⟩ = some (.int .i64 6) := (hE.cell (p := ⟨b, o + j * 4, none⟩) hb id).trans ((keeps_bare _ W).2 _ _ ((hcl 0 (by decide)).trans rfl))
   have q01 : wr.cell? ⟨b, o + j * 4 + 1, none⟩ = some (.string t1) := (hE.cell (p := ⟨b, o + j * 4 + 1, none⟩) hb id).trans ((keeps_bare _ W).2 _ _ ((hcl 1 (by decide)).trans rfl)); have q02 : wr.cell? ⟨b, o + j * 4 + 2, none⟩ = some (.int .i64 m1) := (hE.cell (p := ⟨b, o + j * 4 + 2, none⟩) hb id).trans ((keeps_bare _ W).2 _ _ ((hcl 2 (by decide)).trans rfl)); have q03 : wr.cell? ⟨b, o + j * 4 + 3, none⟩ = some (.slice a1 N1 c1) := (hE.cell (p := ⟨b, o + j * 4 + 3, none⟩) hb id).trans ((keeps_bare _ W).2 _ _ ((hcl 3 (by decide)).trans rfl)); obtain ⟨Kb, hKb⟩ : ∃ Kb, wr.heap.size = Kb := ⟨_, rfl⟩; have HK := Z_ (show Blk (wr.alloc (.cells #[.int .i64 6, .string t1, .int .i64 m1, .slice a1 N1 c1] 24)) Kb #[.int .i64 6, .string t1, .int .i64 m1, .slice a1 N1 c1] 24 by rw [← hKb]; exact Blk.made wr _ _); have hPK : P + 1 ≤ Kb := by rw [← hKb]; exact hcs9.hu
   have HCS5 := Z_ (hcs9.extend ((Chg.refl (fun _ => False) wr).alloc (.cells #[.int .i64 6, .string t1, .int .i64 m1, .slice a1 N1 c1] 24))); have HB5 := Z_ (hnb9.alloc (.cells #[.int .i64 6, .string t1, .int .i64 m1, .slice a1 N1 c1] 24)); have HQ5 := Z_ (hqb9.alloc (.cells #[.int .i64 6, .string t1, .int .i64 m1, .slice a1 N1 c1] 24)); have HG5 := Z_ (hch9.alloc (.cells #[.int .i64 6, .string t1, .int .i64 m1, .slice a1 N1 c1] 24)); have HZ := Z_ hsz9; have HPC9 := Z_ hpc9; have HOW := Z_ (show ∀ i, vl9.ownBlock = some i → i < Kb from fun i e => by rw [← hKb]; exact (grow_own hcs9.loc i e).2); have hji : (j : Int) < (j : Int) + 1 := by omega
   have hbc := hnb9.cell; clear hcs9 hpc9 hnb9 hqb9 hch9 hsz9 hE hcl hus hyi hye HX HX9 hT2 hRY hk4 hN1 hq1 hq2; go_upto_region 12 with (fail)
   try rw [hKb]
   generalize wr.alloc (.cells #[.int .i64 6, .string t1, .int .i64 m1, .slice a1 N1 c1] 24) = u5 at *; clear q0 q01 q02 q03 hKb hbc; refine wp_region_weave [8, 11] (fun i v _ => v = ([.pointer (some ⟨C, 0, none⟩), .pointer (some ⟨C, 0, none⟩), .pointer (some ⟨C, 5, none⟩), .pointer (some ⟨P, 0, none⟩), .pointer (some ⟨C, 0, none⟩), .agg #[.int .i64 6, .string t1, .int .i64 m1, .slice a1 N1 c1], .pointer (some ⟨Nb + 1, 3, none⟩), .int .i64 pr.writes, undef, .pointer (some ⟨P, 0, none⟩), .pointer (some ⟨P, 6, none⟩), undef] : List Value).getD i undef) (BodF (fun u9 => CS W u9 C Mo D K P (P + 1) E vl9 (parL ps) 1 ((q1 : Nat) : Int) bod fac dc pc9 ∧ Blk u9 Nb #[.int .i64 4, .string t, .int .i64 m, .slice (some ⟨b, o, none⟩) (j + 1) cc] 24 ∧ Blk u9 (Nb + 1) #[.string pr.name, .bool pb, .slice pa pr.params.length pcc, .int .i64 pr.writes, .bool gv, .int .i64 pr.given] 68 ∧ Chg (fun i => i = C) ua u9 ∧ Blk u9 Kb #[.int .i64 6, .string t1, .int .i64 m1, .slice a1 N1 c1] 24) (fun u9 => BX W ua u9 C Mo D K P Nb E (parL ps) ((q1 + szF (.mk 6 t1 m1 l1) : Nat) : Int) bod fac dc pr #[.int .i64 4, .string t, .int .i64 m, .slice (some ⟨b, o, none⟩) (j + 1) cc] #[.string pr.name, .bool pb, .slice pa pr.params.length pcc, .int .i64 pr.writes, .bool gv, .int .i64 pr.given] ∧ Blk u9 Kb #[.int .i64 6, .string t1, .int .i64 m1, .slice a1 N1 c1] 24) RY) (fun _ _ => True) (frame := ?frab) (fun x => ?hfab) synw.mixed (by kernel_rfl) (by kernel_rfl) (fun _ _ _ _ h _ => h) ?h0b ?stb ?finb
   case hfab =>
    simp only [chain.frameOf, chain.fill, chain.setOpt, chain.dstOf, List.size_toArray, List.length_cons, List.length_nil, List.getElem?_toArray, List.getElem?_cons_succ, List.getElem?_cons_zero, List.setIfInBounds_toArray, List.set_cons_succ, List.set_cons_zero]; exact rfl
   case h0b => exact ⟨HCS5.out.extend (Chg.refl _ _).drew, HB5.out.drew, HQ5.out.drew, HG5.out.drew, HK.out.drew⟩
   case stb =>
    refine AllFrom.cons (fun x vs u hF hm hb hd K' hK' => ?sb0) (AllFrom.cons (fun x vs u hF hm hb hd K' hK' => ?sb1) (AllFrom.cons (fun x vs u hF hm hb hd K' hK' => ?sb2) (AllFrom.cons (fun x vs u hF hm hb hd K' hK' => ?sb3) (AllFrom.cons (fun x vs u hF hm hb hd K' hK' => ?sb4) (AllFrom.cons (fun x vs u hF hm hb hd K' hK' => ?sb5) (AllFrom.cons (fun x vs u hF hm hb hd K' hK' => ?sb6) (AllFrom.cons (fun x vs u hF hm hb hd K' hK' => ?sb7) (AllFrom.cons (fun x vs u hF hm hb hd K' hK' => ?sb8) (AllFrom.cons (fun x vs u hF hm hb hd K' hK' => ?sb9) (AllFrom.cons (fun x vs u hF hm hb hd K' hK' => ?sb10) (AllFrom.cons (fun x vs u hF hm hb hd K' hK' => ?sb11) (AllFrom.nil))))))))))))
    case sb0 =>
     have HF := Z_ hF; clear hd hm hb hF; go_simp; exact hK'.out _ _ _ (rfl) trivial ⟨rfl, HF.out⟩
    case sb1 =>
     have y0 := hd 0 (by decide) (by kernel_rfl); replace y0 : x 53 = .pointer (some ⟨C, 0, none⟩) := y0; have HF := Z_ hF; clear hd hm hb hF; go_simp; exact hK'.out _ _ _ (by simp only [y0]; rfl) trivial ⟨rfl, HF.out⟩
    case sb2 =>
     have y0 := hd 1 (by decide) (by kernel_rfl); replace y0 : x 54 = .pointer (some ⟨C, 0, none⟩) := y0; have HF := Z_ hF; clear hd hm hb hF; go_simp; exact hK'.out _ _ _ (by simp only [y0]; rfl) trivial ⟨rfl, HF.out⟩
    case sb3 =>
     have hq := BodF.any hF (Q := u.cell? ⟨C, 5, none⟩ = some (.pointer (some ⟨P, 0, none⟩))) (fun h => (h.1.c.cell 5).trans rfl) (fun h => h.1.ptr); have y0 := hd 2 (by decide) (by kernel_rfl); replace y0 : x 55 = .pointer (some ⟨C, 5, none⟩) := y0; have HF := Z_ hF; clear hd hm hb hF; go_simp; exact hK'.out _ _ _ (by simp only [y0]; rfl) trivial ⟨rfl, HF.out⟩
    case sb4 =>
     have HF := Z_ hF; clear hd hm hb hF; go_simp; exact hK'.out _ _ _ (rfl) trivial ⟨rfl, HF.out⟩
    case sb5 =>
     have hq := BodF.any hF (Q := ∀ o9, u.cell? ⟨Kb, o9, none⟩ = #[.int .i64 6, .string t1, .int .i64 m1, .slice a1 N1 c1][o9]?) (fun h => h.2.2.2.2.cell) (fun h => h.2.cell); have HF := Z_ hF; clear hd hm hb hF; go_simp; exact hK'.out _ _ _ (rfl) trivial ⟨rfl, HF.out⟩
    case sb6 =>
     have HF := Z_ hF; clear hd hm hb hF; go_simp; exact hK'.out _ _ _ (rfl) trivial ⟨rfl, HF.out⟩
    case sb7 =>
     have hq := BodF.any hF (Q := ∀ o9, u.cell? ⟨Nb + 1, o9, none⟩ = #[.string pr.name, .bool pb, .slice pa pr.params.length pcc, .int .i64 pr.writes, .bool gv, .int .i64 pr.given][o9]?) (fun h => h.2.2.1.cell) (fun h => h.1.qb); have y0 := hd 6 (by decide) (by kernel_rfl); replace y0 : x 59 = .pointer (some ⟨Nb + 1, 3, none⟩) := y0; have HF := Z_ hF; clear hd hm hb hF; go_simp; exact hK'.out _ _ _ (by simp only [y0]; rfl) trivial ⟨rfl, HF.out⟩
    case sb8 =>
     obtain rfl := List.eq_nil_of_length_eq_zero (hm 0 (by kernel_rfl)); have y0 := hd 4 (by decide) (by kernel_rfl); replace y0 : x 57 = .pointer (some ⟨C, 0, none⟩) := y0; have y1 := hd 5 (by decide) (by kernel_rfl); replace y1 : x 58 = .agg #[.int .i64 6, .string t1, .int .i64 m1, .slice a1 N1 c1] := y1; have y2 := hd 7 (by decide) (by kernel_rfl); replace y2 : x 60 = .int .i64 pr.writes := y2; have hF1 := (show _ ∧ _ from hF); have hsb := HSZ.out; have hnp := HNP.out; have HX9 := Z_ (block_of hmv _ HBI.out rfl _ true pr.writes u q1 vl9 (parL ps) 1 pc9 hF1.1 HPC9.out HU.out (by omega) (by simp only [parL, List.length_map]; omega) (by decide) (by omega)); have HF := Z_ hF1; clear hd hm hb hF hF1 hsb hnp; go_simp; refine HX9.out.mono ?_
     rintro e u2 ⟨hC9, hT9⟩; obtain ⟨hcs8, hnb8, hqb8, hch8, hkb8⟩ := HF.out; have hz := HZ.out; rw [HRY.out] at hT9; cases RY with
     | bad c9 p9 =>
      obtain rfl : e = _ := hT9; have hc9 := (hch8.weak (S' := BS C Mo bod) fun _ _ e => .inl e).trans hC9 (fun i hi e => .inl (BX.far hcs8 hz.2.1 hz.2.2 i (by omega) e)); go_wp2_with fail
      exact ⟨rfl, hc9, by rw [← HT2.out]; rfl⟩
     | ok t6 =>
      obtain ⟨g6, vl6, pc6, rfl, hg6, hcs6, hpc6, hta6, hfr6, hkd6⟩ := hT9; have hbx6 := BX.call hcs8 hnb8 hqb8 hch8 hz hC9 hcs6 hpc6; have hkb6 := hkb8.chg hC9 (fun e => by
      rcases e with e | e | e
      ·omega
      ·omega
      ·have := HOW.out _ e; omega)
      exact hK'.out _ _ _ (by simp only [y0, y1, y2]; rfl) trivial ⟨t6, g6, rfl, rfl, hbx6, hkb6⟩
    case sb9 =>
     have y0 := hd 3 (by decide) (by kernel_rfl); replace y0 : x 56 = .pointer (some ⟨P, 0, none⟩) := y0; have HF := Z_ hF; clear hd hm hb hF; go_simp; exact hK'.out _ _ _ (by simp only [y0]; rfl) trivial ⟨rfl, HF.out⟩
    case sb10 =>
     have y0 := hd 9 (by decide) (by kernel_rfl); replace y0 : x 62 = .pointer (some ⟨P, 0, none⟩) := y0; have HF := Z_ hF; clear hd hm hb hF; go_simp; exact hK'.out _ _ _ (by simp only [y0]; rfl) trivial ⟨rfl, HF.out⟩
    case sb11 =>
     obtain ⟨v0, rfl⟩ : ∃ v0, vs = [v0] := by match vs, hm 1 (by kernel_rfl) with | [v0], _ => exact ⟨_, rfl⟩
     have y0 := hd 10 (by decide) (by kernel_rfl); replace y0 : x 63 = .pointer (some ⟨P, 6, none⟩) := y0; have y1 := hd 8 (by decide) (by kernel_rfl) 61 (by kernel_rfl); replace y1 : x 61 = v0 := y1; obtain ⟨t6, g6, hRt, rfl, hF1, hF2⟩ := hF; obtain ⟨p91, p92, p93, p94, p95, hpb⟩ := hF1.p; have hq := hpb.cell; have hqf := hpb.frozen; have hql := hpb.lt; have HF := Z_ hF1; have HF2 := Z_ hF2; have HRT := Z_ hRt; clear hd hm hb hF1 hF2 hRt hpb; go_simp; exact hK'.out _ _ undef (by simp only [y0, y1]; rfl) trivial ⟨t6, g6, HRT.out, rfl, HF.out.putP g6, HF2.out.setOther (p := ⟨P, 6, none⟩) (by show Kb ≠ P; omega) _⟩
   case finb =>
    intro x9 vs9 w9 hl hF hk9; obtain ⟨v0, v1, rfl⟩ : ∃ v0 v1, vs9 = [v0, v1] := by match vs9, hl with | [v0, v1], _ => exact ⟨_, _, rfl⟩
    obtain ⟨t6, g6, hRt, rfl, hF1, hF2⟩ := hF; rw [hRt] at HT2; have HT3 := Z_ HT2.out; simp only [Rz.bind] at HT3; have HBX := Z_ hF1; have HK9 := Z_ hF2; clear hk9 hl hF1 hF2 hRt HT2; have hkc := HK9.out.cell; have hqc := HBX.out.qb; go_upto_region 14 with (fail)
    obtain ⟨MM, hMM⟩ : ∃ MM, (pr.gives && !(retB l1)) = MM := ⟨_, rfl⟩; rw [hMM] at HT3; have HEE := Z_ (show Chg (BS C Mo bod) ua w9 from by obtain ⟨_, _, _, _, _, _, h, _⟩ := HBX.out; exact h.weak fun _ _ e => .inl e); have HXT := Z_ (show Ext W w9 from by obtain ⟨_, _, h, _⟩ := HBX.out; exact h.ext); go_cut [] (fun w' => w' = w9 ∧ MM = false)
    case first =>
     cases gv with
     | false =>
      go_wp2_with fail
      refine (must_yes 2 (p : Nat) _).mono ?_
      rintro e w9 ⟨rfl, rfl⟩; go_wp2_with fail
      go_meet
      exact ⟨rfl, by rw [← hMM, HGV.out]; rfl⟩
     | true =>
      rw [HGV.out] at hMM; rcases Nat.eq_zero_or_pos N1 with h0 | h0
      ·subst h0
       have hl0 := List.eq_nil_of_length_eq_zero HN1.out; subst hl0; obtain rfl : MM = true := hMM.symm; have HT4 := Z_ (show (.bad 2 p : Rz Tr) = T from HT3.out); go_wp2_with fail
       refine (must_no 2 (p : Nat) _).mono ?_
       rintro e w9 ⟨rfl, rfl⟩; go_wp2_with fail
       exact ⟨rfl, HEE.out, by rw [← HT4.out]⟩
      ·have hjl1 : N1 - 1 < l1.length := by rw [HN1.out]; omega
       obtain ⟨b1, o1, rfl, hb1, uv1, hu1, hus1, hcl1⟩ := HI1.out W (Chg.refl _ _) (N1 - 1) hjl1; rw [hide_size] at hb1; have hgl : l1.getLast? = some l1[N1 - 1] := by rw [List.getLast?_eq_getElem?, HN1.out, List.getElem?_eq_getElem hjl1]
       unfold retB at hMM; rw [hgl] at hMM; generalize l1[N1 - 1] = y1 at hu1 hMM; obtain ⟨k2, t2, m2, l2⟩ := y1; rw [ndAt_mk] at hu1; obtain ⟨a2, c2, rfl, -⟩ := hu1; have q9 : w9.cell? ⟨b1, o1 + (N1 - 1) * 4, none⟩ = some (.int .i64 k2) := (HXT.out.cell (p := ⟨b1, o1 + (N1 - 1) * 4, none⟩) hb1 id).trans ((keeps_bare _ W).2 _ _ ((hcl1 0 (by decide)).trans rfl)); obtain ⟨n1, rfl⟩ : ∃ n1, N1 = n1 + 1 := ⟨N1 - 1, by omega⟩; rw [Nat.add_sub_cancel] at q9; have hpo : (0 : Int) < (n1 : Int) + 1 := Int.lt_add_one_of_le (Int.natCast_nonneg n1); have hpd : decide ((0 : Int) < (n1 : Int) + 1) = true := decide_eq_true hpo; have hwn1 : wrap64 (n1 : Int) = (n1 : Int) := by have h1 := len_szL l1; have h2 := HSZ.out; have h4 := HN1.out; simp only [szF] at h2; exact IntWalk.wrap64_in _ (by omega)
       have hin : (n1 : Int) < (n1 : Int) + 1 := by omega
       by_cases h14 : k2 = 14
       ·subst h14
        obtain rfl : MM = false := hMM.symm; go_wp2_with fail
        refine (must_yes 2 (p : Nat) _).mono ?_
        rintro e w9 ⟨rfl, rfl⟩; go_wp2_with fail
        go_meet
        first | exact ⟨rfl, rfl⟩ | exact ⟨rfl, trivial⟩
       ·have h14b : (k2 == 14) = false := by simpa using h14
        obtain rfl : MM = true := by rw [← hMM]; simp [Nd.kd, h14]
        have HT4 := Z_ (show (.bad 2 p : Rz Tr) = T from HT3.out); go_wp2_with fail
        refine (must_no 2 (p : Nat) _).mono ?_
        rintro e w9 ⟨rfl, rfl⟩; go_wp2_with fail
        exact ⟨rfl, HEE.out, by rw [← HT4.out]⟩
    case rest =>
     clear hqc hkc; obtain ⟨hw, rfl⟩ := hcut; subst hw; have HT4 := Z_ (show (.ok t6 : Rz Tr) = T from HT3.out); have HROW := Z_ (show Grow 1 218 OPrc Bm wc bod bs from by obtain ⟨_, _, _, _, _, _, h, _⟩ := HBX.out; exact HMS0.out.row.chg prc_keeps h fun i e => by have := HMS0.out.cB; omega); obtain ⟨vl8, pc8, hcs8, hpc8, hnb8, hqb8, hch8, hsz8⟩ := HBX.out; obtain ⟨ra, rc, hbod, hr1, hr2⟩ := grow_slice HROW.out; obtain ⟨nb, hnbs⟩ : ∃ nb, bs.length = nb := ⟨_, rfl⟩; rw [hnbs] at hbod hr1; have HNBS := Z_ hnbs; have HOB := Z_ (fun i e => grow_own HROW.out i e); subst hbod; have HC15 := Z_ hcs8; have HH := Z_ (And.intro hnb8 (And.intro hqb8 (And.intro hch8 hsz8))); have HPW := Z_ hpc8; clear hcs8 hpc8 hnb8 hqb8 hch8 hsz8 hnbs; go_upto_region 15 with (fail)
     refine wp_region_weave [15, 16, 19] (fun i v _ => v = ([.pointer (some ⟨C, 0, none⟩), .pointer (some ⟨C, 0, none⟩), .pointer (some ⟨C, 0, none⟩), .pointer (some ⟨Mo, 0, none⟩), .pointer (some ⟨C, 0, none⟩), .pointer (some ⟨C, 0, none⟩), .pointer (some ⟨C, 0, none⟩), .pointer (some ⟨Mo, 0, none⟩), .pointer (some ⟨Mo, 0, none⟩), .pointer (some ⟨Mo, 1, none⟩), .slice ra nb rc, .pointer (some ⟨C, 0, none⟩), .pointer (some ⟨C, 0, none⟩), .pointer (some ⟨C, 5, none⟩), .pointer (some ⟨P, 0, none⟩), undef, undef, .pointer (some ⟨Mo, 0, none⟩), .pointer (some ⟨Mo, 1, none⟩), undef] : List Value).getD i undef) (ofp.PushX (fun u9 rN r lq => MB wc u9 C Mo D K P Bm vl8 ((q1 + szF (.mk 6 t1 m1 l1) : Nat) : Int) (.slice ra nb rc) fac rN r lq) (fun _ => false) OPrc Bm 218 (.slice ra nb rc) bs (pr, t6) (.pointer (some ⟨P, 0, none⟩))) (fun _ _ => True) (frame := ?frap) (fun x => ?hfap) synw.mixed (by kernel_rfl) (by kernel_rfl) (fun _ _ _ _ h _ => h) ?h0p ?stp ?finp
     case hfap =>
      simp only [chain.frameOf, chain.fill, chain.setOpt, chain.dstOf, List.size_toArray, List.length_cons, List.length_nil, List.getElem?_toArray, List.getElem?_cons_succ, List.getElem?_cons_zero, List.setIfInBounds_toArray, List.set_cons_succ, List.set_cons_zero]; exact rfl
     case h0p => exact ⟨⟨(Chg.refl _ _).drew, HC15.out.c.drew, HC15.out.mo.drew, growx_chg (grow_x HROW.out prc_any (fun _ => false)) prc_keeps (Chg.refl (fun _ => False) wc).drew (fun i e => e.elim) (fun i e e2 => e2.elim) (fun i e => by cases e), fun i e => .inl e⟩, P, rfl⟩
     case stp =>
      refine AllFrom.cons (fun x vs u hF hm hb hd K' hK' => ?sp0) (AllFrom.cons (fun x vs u hF hm hb hd K' hK' => ?sp1) (AllFrom.cons (fun x vs u hF hm hb hd K' hK' => ?sp2) (AllFrom.cons (fun x vs u hF hm hb hd K' hK' => ?sp3) (AllFrom.cons (fun x vs u hF hm hb hd K' hK' => ?sp4) (AllFrom.cons (fun x vs u hF hm hb hd K' hK' => ?sp5) (AllFrom.cons (fun x vs u hF hm hb hd K' hK' => ?sp6) (AllFrom.cons (fun x vs u hF hm hb hd K' hK' => ?sp7) (AllFrom.cons (fun x vs u hF hm hb hd K' hK' => ?sp8) (AllFrom.cons (fun x vs u hF hm hb hd K' hK' => ?sp9) (AllFrom.cons (fun x vs u hF hm hb hd K' hK' => ?sp10) (AllFrom.cons (fun x vs u hF hm hb hd K' hK' => ?sp11) (AllFrom.cons (fun x vs u hF hm hb hd K' hK' => ?sp12) (AllFrom.cons (fun x vs u hF hm hb hd K' hK' => ?sp13) (AllFrom.cons (fun x vs u hF hm hb hd K' hK' => ?sp14) (AllFrom.cons (fun x vs u hF hm hb hd K' hK' => ?sp15) (AllFrom.cons (fun x vs u hF hm hb hd K' hK' => ?sp16) (AllFrom.cons (fun x vs u hF hm hb hd K' hK' => ?sp17) (AllFrom.cons (fun x vs u hF hm hb hd K' hK' => ?sp18) (AllFrom.cons (fun x vs u hF hm hb hd K' hK' => ?sp19) (AllFrom.nil))))))))))))))))))))
      case sp0 =>
       have HF := Z_ hF; clear hd hm hb hF; go_simp; exact hK'.out _ _ _ (rfl) trivial ⟨rfl, HF.out⟩
      case sp1 =>
       have y0 := hd 0 (by decide) (by kernel_rfl); replace y0 : x 86 = .pointer (some ⟨C, 0, none⟩) := y0; have HF := Z_ hF; clear hd hm hb hF; go_simp; exact hK'.out _ _ _ (by simp only [y0]; rfl) trivial ⟨rfl, HF.out⟩
      case sp2 =>
       have y0 := hd 1 (by decide) (by kernel_rfl); replace y0 : x 87 = .pointer (some ⟨C, 0, none⟩) := y0; have HF := Z_ hF; clear hd hm hb hF; go_simp; exact hK'.out _ _ _ (by simp only [y0]; rfl) trivial ⟨rfl, HF.out⟩
      case sp3 =>
       obtain ⟨_, _, _, hBB⟩ := ofp.PushX.any hF; have hq := hBB.2.1.cell; unfold ckC at hq; clear hBB; have y0 := hd 2 (by decide) (by kernel_rfl); replace y0 : x 88 = .pointer (some ⟨C, 0, none⟩) := y0; have HF := Z_ hF; clear hd hm hb hF; go_simp; exact hK'.out _ _ _ (by simp only [y0]; rfl) trivial ⟨rfl, HF.out⟩
      case sp4 =>
       have HF := Z_ hF; clear hd hm hb hF; go_simp; exact hK'.out _ _ _ (rfl) trivial ⟨rfl, HF.out⟩
      case sp5 =>
       have y0 := hd 4 (by decide) (by kernel_rfl); replace y0 : x 90 = .pointer (some ⟨C, 0, none⟩) := y0; have HF := Z_ hF; clear hd hm hb hF; go_simp; exact hK'.out _ _ _ (by simp only [y0]; rfl) trivial ⟨rfl, HF.out⟩
      case sp6 =>
       have y0 := hd 5 (by decide) (by kernel_rfl); replace y0 : x 91 = .pointer (some ⟨C, 0, none⟩) := y0; have HF := Z_ hF; clear hd hm hb hF; go_simp; exact hK'.out _ _ _ (by simp only [y0]; rfl) trivial ⟨rfl, HF.out⟩
      case sp7 =>
       obtain ⟨_, _, _, hBB⟩ := ofp.PushX.any hF; have hq := hBB.2.1.cell; unfold ckC at hq; clear hBB; have y0 := hd 6 (by decide) (by kernel_rfl); replace y0 : x 92 = .pointer (some ⟨C, 0, none⟩) := y0; have HF := Z_ hF; clear hd hm hb hF; go_simp; exact hK'.out _ _ _ (by simp only [y0]; rfl) trivial ⟨rfl, HF.out⟩
      case sp8 =>
       have y0 := hd 7 (by decide) (by kernel_rfl); replace y0 : x 93 = .pointer (some ⟨Mo, 0, none⟩) := y0; have HF := Z_ hF; clear hd hm hb hF; go_simp; exact hK'.out _ _ _ (by simp only [y0]; rfl) trivial ⟨rfl, HF.out⟩
      case sp9 =>
       have y0 := hd 8 (by decide) (by kernel_rfl); replace y0 : x 94 = .pointer (some ⟨Mo, 0, none⟩) := y0; have HF := Z_ hF; clear hd hm hb hF; go_simp; exact hK'.out _ _ _ (by simp only [y0]; rfl) trivial ⟨rfl, HF.out⟩
      case sp10 =>
       have hBB := ofp.PushX.B hF (by have := hb 1 _ (by decide) rfl (by kernel_rfl); omega); have hq := hBB.2.2.1.cell; clear hBB; have y0 := hd 9 (by decide) (by kernel_rfl); replace y0 : x 95 = .pointer (some ⟨Mo, 1, none⟩) := y0; have HF := Z_ hF; clear hd hm hb hF; go_simp; exact hK'.out _ _ _ (by simp only [y0]; rfl) trivial ⟨rfl, HF.out⟩
      case sp11 =>
       have HF := Z_ hF; clear hd hm hb hF; go_simp; exact hK'.out _ _ _ (rfl) trivial ⟨rfl, HF.out⟩
      case sp12 =>
       have y0 := hd 11 (by decide) (by kernel_rfl); replace y0 : x 97 = .pointer (some ⟨C, 0, none⟩) := y0; have HF := Z_ hF; clear hd hm hb hF; go_simp; exact hK'.out _ _ _ (by simp only [y0]; rfl) trivial ⟨rfl, HF.out⟩
      case sp13 =>
       have y0 := hd 12 (by decide) (by kernel_rfl); replace y0 : x 98 = .pointer (some ⟨C, 0, none⟩) := y0; have HF := Z_ hF; clear hd hm hb hF; go_simp; exact hK'.out _ _ _ (by simp only [y0]; rfl) trivial ⟨rfl, HF.out⟩
      case sp14 =>
       obtain ⟨_, _, _, hBB⟩ := ofp.PushX.any hF; have hq := hBB.2.1.cell; unfold ckC at hq; clear hBB; have y0 := hd 13 (by decide) (by kernel_rfl); replace y0 : x 99 = .pointer (some ⟨C, 5, none⟩) := y0; have HF := Z_ hF; clear hd hm hb hF; go_simp; exact hK'.out _ _ _ (by simp only [y0]; rfl) trivial ⟨rfl, HF.out⟩
      case sp15 =>
       obtain rfl := List.eq_nil_of_length_eq_zero (hm 0 (by kernel_rfl)); have y0 := hd 14 (by decide) (by kernel_rfl); replace y0 : x 100 = .pointer (some ⟨P, 0, none⟩) := y0; have hBB := hF.1; have HG := Z_ (ofp.growx_own (hBB.2.2.2.1)); have HF := Z_ hF; clear hd hm hb hF hBB; go_simp; exact hK'.out _ _ _ (by simp only [y0]; rfl) trivial ((ofp.pushx_slice chk.prc_keeps (fun u' hE => ⟨HF.out.1.1.ext hE, HF.out.1.2.1.ext hE, HF.out.1.2.2.1.ext hE, growx_chg HF.out.1.2.2.2.1 prc_keeps hE (fun i e => e.elim) (fun i e e2 => e2.elim) (fun i e => by cases e), HF.out.1.2.2.2.2⟩) (fun i e => (HG.out i e).2) HF.out rfl))
      case sp16 =>
       obtain ⟨v0, rfl⟩ : ∃ v0, vs = [v0] := by match vs, hm 1 (by kernel_rfl) with | [v0], _ => exact ⟨_, rfl⟩
       have y0 := hd 10 (by decide) (by kernel_rfl); replace y0 : x 96 = .slice ra nb rc := y0; have y1 := hd 15 (by decide) (by kernel_rfl) 101 (by kernel_rfl); replace y1 : x 101 = v0 := y1; have hF2 := hF; obtain ⟨hBB, hxx, gg, rfl, hgb, hgr⟩ := hF2; obtain ⟨us, hu1, ho, hu3⟩ := (hBB.2.2.2.1).ex; obtain ⟨i0_, hi_, hz0, hz1, hz2⟩ := synw.info_split ofp.info_prc; have hbz : Bm ≤ u.heap.size := by have h1 := HMS0.out.hu; have h2 := hBB.1.size; have h3 := HH.out.2.2.2; have h4 := HH.out.2.2.1.size; omega
       refine wp_append_lies _ _ _ 123 rfl (Bm) 218 i0_ (.pointer none) 1 8 Tryz.underlying123 hi_ hz0 hz1 hz2 rfl (by decide) (.slice ra nb rc) bs.length (us.flatMap fun u => u.cells.toList) y0 ho ⟨gg, 0, none⟩ 1 1 [.pointer (some ⟨P, 0, none⟩)] y1 rfl ?_ (by intro z_ hz_; simp only [List.mem_cons, List.not_mem_nil, or_false] at hz_; rcases hz_ with rfl <;> rfl) (by decide) (by unfold maxLen; have := HBS.out; omega) (by have := HBS.out; omega) hbz u.heap.size rfl ?_
       ·intro j q hj; have e : (⟨gg, 0, none⟩ : Addr).add j = ⟨gg, j, none⟩ := (by unfold Addr.add; split <;> simp_all); rw [e, hgb.cell]; simpa [Value.cells] using hj
       ·intro g9 c9 w9 ho9 hg9 ha9 hl9
        exact hK'.out _ _ _ rfl trivial ((ofp.pushx_append chk.prc_keeps hF hu1 hu3 rfl (fun r acc1 hG hC ha => ⟨hBB.1.trans hC (fun i hi e => .inr e), hBB.2.1.chg hC (fun e => by have := HOB.out _ e; have := HMS0.out.cB; omega), hBB.2.2.1.chg hC (fun e => by have := HOB.out _ e; have := HMS0.out.mB; omega), hG, fun i e => by rcases ha i e with h9 | h9; exact .inl h9; exact .inr (by have := hBB.1.size; omega)⟩) ho9 hg9 ha9))
      case sp17 =>
       have y0 := hd 3 (by decide) (by kernel_rfl); replace y0 : x 89 = .pointer (some ⟨Mo, 0, none⟩) := y0; have HF := Z_ hF; clear hd hm hb hF; go_simp; exact hK'.out _ _ _ (by simp only [y0]; rfl) trivial ⟨rfl, HF.out⟩
      case sp18 =>
       have y0 := hd 17 (by decide) (by kernel_rfl); replace y0 : x 103 = .pointer (some ⟨Mo, 0, none⟩) := y0; have HF := Z_ hF; clear hd hm hb hF; go_simp; exact hK'.out _ _ _ (by simp only [y0]; rfl) trivial ⟨rfl, HF.out⟩
      case sp19 =>
       obtain ⟨v0, v1, rfl⟩ : ∃ v0 v1, vs = [v0, v1] := by match vs, hm 2 (by kernel_rfl) with | [v0, v1], _ => exact ⟨_, _, rfl⟩
       have y0 := hd 18 (by decide) (by kernel_rfl); replace y0 : x 104 = .pointer (some ⟨Mo, 1, none⟩) := y0; have y1 := hd 16 (by decide) (by kernel_rfl) 102 (by kernel_rfl); replace y1 : x 102 = v1 := y1; have hF2 := hF; obtain ⟨hBB, gg, cc, rfl⟩ := hF2; have hq := hBB.2.2.1.cell; have hqf := hBB.2.2.1.frozen; have hql := hBB.2.2.1.lt; have HF := Z_ hF; clear hd hm hb hF hBB; go_simp; exact hK'.out _ _ undef (by simp only [y0, y1]; rfl) trivial ((ofp.pushx_store (z := undef) HF.out (fun h => ⟨h.1.setCell (p := ⟨Mo, 1, none⟩) (fun _ => .inl rfl) _, h.2.1.setOther (p := ⟨Mo, 1, none⟩) (by have := HMS0.out.cM; exact this) _, h.2.2.1.set 1 _, growx_chg h.2.2.2.1 prc_keeps (chg_set (S := Mo) (Chg.refl _ _) 1 _) (fun i e => .inl (by have := HMS0.out.mB; omega)) (fun i e e2 => by have := growx_own h.2.2.2.1 i e; have := HMS0.out.mB; omega) (fun i e => by cases e), h.2.2.2.2⟩)))
     case finp =>
      intro x9 vs9 w9 hl hF hk9; obtain ⟨v0, v1, v2, rfl⟩ : ∃ v0 v1 v2, vs9 = [v0, v1, v2] := by match vs9, hl with | [v0, v1, v2], _ => exact ⟨_, _, _, rfl⟩
      clear hk9 hl; obtain ⟨hC9, hc9, hm9, hg9, ho9⟩ := (show MB _ _ _ _ _ _ _ _ _ _ _ _ _ _ _ from hF); have HX9 := Z_ (And.intro hC9 (And.intro hc9 (And.intro hm9 (And.intro hg9 ho9)))); clear hC9 hc9 hm9 hg9 ho9 hF; go_wp2_with fail
      go_end0
      obtain ⟨hC9, hc9, hm9, hg9, ho9⟩ := HX9.out; obtain ⟨hnb8, hqb8, hch8, hsz8⟩ := HH.out; have hms := HMS0.out; refine ⟨(hch8.weak (S' := BS C Mo (.slice ra nb rc)) fun _ _ e => .inl e).then (hC9.weak fun i _ e => by rcases e with e | e; exact .inr (.inl e); exact .inr (.inr e)), ?_⟩
      rw [← HT4.out]; refine ⟨rfl, vl8, .int .i64 1, .pointer (some ⟨P, 0, none⟩), v1, ?_, fun i e => by rcases ho9 i e with h | h; exact .inl h; exact .inr (Nat.le_trans hch8.size h)⟩
      have hcs := HC15.out; obtain ⟨n9, hn9, hk9⟩ := hcs.k; have h1 := hms.hC; have h2 := hms.hM; have h3 := hms.hK; have h4 := hms.cB; have h5 := hms.mB; have h6 := hms.kB; have h7 := hcs.ext.size; have h8 := hch8.size; have h9 := hms.hu; have h10 := hms.ext.size; have h11 := hC9.size
      have hq9 : q1 + szF (.mk 6 t1 m1 l1) = p + szF (.mk 4 t m (ps ++ [.mk 6 t1 m1 l1])) := HQ2.out; rw [hq9] at hc9; have hoW := HOB.out; exact ⟨hcs.ext.trans hC9 (fun i hi e => by rcases e with e | e; omega; have := hoW _ e; omega), hc9, hm9, hms.d, hms.own, ⟨n9, hn9, hk9.chg hC9 (fun e => by rcases e with e | e; exact hms.mK e.symm; have := hoW _ e; omega)⟩, growx_x hg9, h1, h2, h3, h4, h5, h6, hms.cM, hms.cK, hms.mK, by omega⟩
end chk
end Go.Proofs.YtpcihajmcejliacGreatDoor
namespace Go.Proofs.YtpcihajmcejliacGreatDoor
open Go.RowKit
namespace chkr
open synw ofp ofmap
theorem first_is (v : Value) (w : World) : (Instr.typeAssert (.iface 214 v) 20 214 true).run Tryz.prog w = .ok (.tuple #[v, .bool true]) w := by kernel_rfl
def CatchQ (R F : Nat) (c p : Int) (w : World) (e : Exit) (a : Act) (w' : World) : Prop := e = .normal ∧ a.defers = [] ∧ Blk w' R #[.pointer none] 119 ∧ Blk w' F #[.int .i64 c, .int .i64 p] 27 ∧ Chg (fun i => i = R ∨ i = F) w w'
def CatchF (R F B : Nat) (c p : Int) (w0 : World) (cs fs : Array Value) : List Value → World → Prop
 | [], u => Blk u R cs 119 ∧ Blk u F fs 27 ∧ Chg (fun i => i = R ∨ i = F) w0 u ∧ Blk u B #[.int .i64 c, .int .i64 p] 214
 | [_], u => Blk u R #[.pointer none] 119 ∧ Blk u F fs 27 ∧ Chg (fun i => i = R ∨ i = F) w0 u ∧ Blk u B #[.int .i64 c, .int .i64 p] 214
 | _, u => Blk u R #[.pointer none] 119 ∧ Blk u F #[.int .i64 c, .int .i64 p] 27 ∧ Chg (fun i => i = R ∨ i = F) w0 u ∧ Blk u B #[.int .i64 c, .int .i64 p] 214
theorem CatchF.b {R F B : Nat} {c p : Int} {w0 u : World} {cs fs : Array Value} {vs : List Value} (h : CatchF R F B c p w0 cs fs vs u) : Blk u B #[.int .i64 c, .int .i64 p] 214 := by
 match vs, h with
 | [], h => exact h.2.2.2
 | [_], h => exact h.2.2.2
 | _ :: _ :: _, h => exact h.2.2.2
set_option maxRecDepth 100000 in
set_option maxHeartbeats 4000000 in
theorem catch_look (R F : Nat) (c0 f0 f1 : Value) (c p : Int) (w : World) (hR : Blk w R #[c0] 119) (hF : Blk w F #[f0, f1] 27) (hne : R ≠ F) :
  CallsD Tryz.prog 107 #[.pointer (some ⟨R, 0, none⟩), .pointer (some ⟨F, 0, none⟩)] (.panicking (chk.firstC c p)) w fun e u' w' =>
   e = .returned (.tuple #[]) ∧ u' = .panicking [{ v := .iface 214 (.agg #[.int .i64 c, .int .i64 p]), recovered := true }] ∧ Blk w' R #[.pointer none] 119 ∧ Blk w' F #[.int .i64 c, .int .i64 p] 27 ∧ Chg (fun i => i = R ∨ i = F) w w' := by
 have hta := first_is; have hRlt := hR.lt; have hFlt := hF.lt; obtain ⟨B, hB⟩ : ∃ B, w.heap.size = B := ⟨_, rfl⟩; have hB0 := Blk.made w #[.int .i64 c, .int .i64 p] 214; rw [hB] at hB0 hRlt hFlt; have hR0 := hR.alloc (.cells #[.int .i64 c, .int .i64 p] 214); have hF0 := hF.alloc (.cells #[.int .i64 c, .int .i64 p] 214); have hX0 := (Chg.refl (fun i => i = R ∨ i = F) w).alloc (.cells #[.int .i64 c, .int .i64 p] 214); refine callsD_of_wpS Tryz.func107 rfl fun c₀ cs hu => ?_
 unfold chk.firstC at hu; apply wpS_seq
 apply wpS_region
 simp [wpOpsS, go_sem, recoverD, hu, Tryz.ntmps107, Exit.thenS]
 simp only [Array.replicate, List.replicate, List.append_toArray, List.setIfInBounds_toArray, List.set_cons_zero, List.set_cons_succ, List.cons_append, List.nil_append]; refine wpS_of_wp (Code.wp_mono (Q := CatchQ R F c p w) ?_ ?_)
 ·rintro e a w1 ⟨rfl, hd, h1, h2, h3⟩
  exact ⟨hd, _, rfl, _, results_none rfl _ _ _, rfl, rfl, h1, h2, h3⟩
 clear hu; have HR0 := Z_ hR0; have HF0 := Z_ hF0; have HX0 := Z_ hX0; have HB0 := Z_ hB0; clear hR hF hR0 hF0 hX0 hB0; unfold CatchQ; go_upto_region 5 with (fail)
 try rw [hB]
 generalize w.alloc (.cells #[.int .i64 c, .int .i64 p] 214) = u0 at *; refine wp_region_weave [2, 3] (fun i v _ => v = ([.pointer (some ⟨B, 0, none⟩), .agg #[.int .i64 c, .int .i64 p], undef, undef] : List Value).getD i undef) (CatchF R F B c p w #[c0] #[f0, f1]) (fun _ _ => True) (frame := ?frac) (fun x => ?hfac) synw.mixed (by kernel_rfl) (by kernel_rfl) (fun _ _ _ _ h _ => h) ?h0c ?stc ?finc
 case hfac =>
  simp only [chain.frameOf, chain.fill, chain.setOpt, chain.dstOf, List.size_toArray, List.length_cons, List.length_nil, List.getElem?_toArray, List.getElem?_cons_succ, List.getElem?_cons_zero, List.setIfInBounds_toArray, List.set_cons_succ, List.set_cons_zero]; exact rfl
 case h0c => exact ⟨HR0.out.drew, HF0.out.drew, HX0.out.drew, HB0.out.drew⟩
 case stc =>
  refine AllFrom.cons (fun x vs u hF hm hb hd K' hK' => ?sc0) (AllFrom.cons (fun x vs u hF hm hb hd K' hK' => ?sc1) (AllFrom.cons (fun x vs u hF hm hb hd K' hK' => ?sc2) (AllFrom.cons (fun x vs u hF hm hb hd K' hK' => ?sc3) (AllFrom.nil))))
  case sc0 =>
   have HF := Z_ hF; clear hd hm hb hF; go_simp; exact hK'.out _ _ _ (rfl) trivial ⟨rfl, HF.out⟩
  case sc1 =>
   have hc := hF.b.cell; have y0 := hd 0 (by decide) (by kernel_rfl); replace y0 : x 16 = .pointer (some ⟨B, 0, none⟩) := y0; have HF := Z_ hF; clear hd hm hb hF; go_simp; exact hK'.out _ _ _ (by simp only [y0]; rfl) trivial ⟨rfl, HF.out⟩
  case sc2 =>
   obtain rfl := List.eq_nil_of_length_eq_zero (hm 0 (by kernel_rfl)); obtain ⟨g1, g2, g3, g4⟩ := (show _ ∧ _ from hF); have hc := g1.cell; have hf := g1.frozen; have hl := g1.lt; have HG := Z_ (And.intro g1 (And.intro g2 (And.intro g3 g4))); clear hd hm hb hF g1 g2 g3 g4; go_simp; obtain ⟨g1, g2, g3, g4⟩ := HG.out; exact hK'.out _ _ undef rfl trivial ⟨g1.set 0 _, g2.setOther (p := ⟨R, 0, none⟩) (by show F ≠ R; omega) _, g3.setCell (p := ⟨R, 0, none⟩) (fun _ => .inl rfl) _, g4.setOther (p := ⟨R, 0, none⟩) (by show B ≠ R; omega) _⟩
  case sc3 =>
   have y0 := hd 1 (by decide) (by kernel_rfl); replace y0 : x 17 = .agg #[.int .i64 c, .int .i64 p] := y0; obtain ⟨v0, rfl⟩ : ∃ v0, vs = [v0] := by match vs, hm 1 (by kernel_rfl) with | [v0], _ => exact ⟨_, rfl⟩
   obtain ⟨g1, g2, g3, g4⟩ := (show _ ∧ _ from hF); have hc := g2.cell; have hf := g2.frozen; have hl := g2.lt; have HG := Z_ (And.intro g1 (And.intro g2 (And.intro g3 g4))); clear hd hm hb hF g1 g2 g3 g4; go_simp; obtain ⟨g1, g2, g3, g4⟩ := HG.out; exact hK'.out _ _ undef (by simp only [y0]; rfl) trivial ⟨(g1.setOther (p := ⟨F, 0, none⟩) hne _).setOther (p := ⟨F, 1, none⟩) hne _, (g2.set 0 _).set 1 _, (g3.setCell (p := ⟨F, 0, none⟩) (fun _ => .inr rfl) _).setCell (p := ⟨F, 1, none⟩) (fun _ => .inr rfl) _, (g4.setOther (p := ⟨F, 0, none⟩) (by show B ≠ F; omega) _).setOther (p := ⟨F, 1, none⟩) (by show B ≠ F; omega) _⟩
 case finc =>
  intro x vs w9 hl hF hk; obtain ⟨v0, v1, rfl⟩ : ∃ v0 v1, vs = [v0, v1] := by match vs, hl with | [v0, v1], _ => exact ⟨_, _, rfl⟩
  obtain ⟨g1, g2, g3, g4⟩ := (show _ ∧ _ from hF); clear hk hl; have HG := Z_ (And.intro g1 (And.intro g2 g3)); clear hF g1 g2 g3 g4; go_wp2_with (fail)
  exact HG.out
theorem idle_look (R F : Nat) (w : World) :
  CallsD Tryz.prog 107 #[.pointer (some ⟨R, 0, none⟩), .pointer (some ⟨F, 0, none⟩)] .returning w fun e u' w' => e = .returned (.tuple #[]) ∧ u' = .returning ∧ w' = w := by
 refine callsD_of_wpS Tryz.func107 rfl fun c₀ cs hu => ?_
 apply wpS_seq
 apply wpS_region
 simp [wpOpsS, go_sem, recoverD, hu, Tryz.ntmps107, Exit.thenS]
 simp only [Array.replicate, List.replicate, List.append_toArray, List.setIfInBounds_toArray, List.set_cons_zero, List.set_cons_succ, List.cons_append, List.nil_append]; refine wpS_of_wp (Code.wp_mono (Q := fun e a' w' => e = .normal ∧ a'.defers = [] ∧ w' = w) ?_ ?_)
 ·rintro e a w1 ⟨rfl, hd, rfl⟩
  exact ⟨hd, .returning, by cases c₀; simp_all, _, results_none rfl _ _ _, rfl, rfl, rfl⟩
 clear hu; go_wp2_with (fail)
end chkr
end Go.Proofs.YtpcihajmcejliacGreatDoor
