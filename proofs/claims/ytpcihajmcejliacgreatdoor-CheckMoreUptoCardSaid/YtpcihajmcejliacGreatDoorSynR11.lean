/- The walk of the program's Open: what others know of declarations. The walk of the program's Of: a text's face, its imports, its fault. The reference's Same. -/
import Derived.Deep.RegionHeld3
import Derived.Deep.CutBlock
import Derived.Deep.DeepCutAuto
import Derived.Deep.LoopGhost
import Derived.Deep.AppendLies
import Derived.Test.YtpcihajmcejliacGreatDoorOfE
import Derived.Test.YtpcihajmcejliacGreatDoorFaceEq
import Derived.Test.YtpcihajmcejliacGreatDoorSynC
import Derived.Test.YtpcihajmcejliacGreatDoorSyn3
namespace Go.Proofs.YtpcihajmcejliacGreatDoor
open Go.RowKit
namespace off
end off
namespace ofn
open synw ofp
def OProc0 (w0 : World) (x : FProc) (v : Value) (_ : World) : Prop := OProc x v w0
theorem p0_any {w0 : World} (x : FProc) (u : Value) (w w' : World) (h : OProc0 w0 x u w) : OProc0 w0 x u w' := h
theorem p0_keeps {w0 : World} (x : FProc) (u : Value) (w w' : World) (_ : Keeps w w') (h : OProc0 w0 x u w) : OProc0 w0 x u w' := h
def ProcIn0 (w0 w : World) (b o : Nat) (x : FProc) : Prop := ∃ u, OProc x u w0 ∧ u.cells.size = 6 ∧ ∀ i, i < 6 → w.cell? ⟨b, o + i, none⟩ = u.cells[i]?
theorem p0_lies {w0 : World} (w : World) (b o : Nat) (x : FProc) (u : Value) (h : OProc0 w0 x u w) (hs : u.cells.size = 6) (hc : ∀ i, i < 6 → w.cell? ⟨b, o + i, none⟩ = u.cells[i]?) : ProcIn0 w0 w b o x := ⟨u, h, hs, hc⟩
structure OB (wq w u : World) (D Fb B : Nat) (dc : Array Value) (m : ByteArray) (rvN rpN rv rp : Value) (vs : List FVar) (ps : List FProc) : Prop where
 ext : Ext w u
 d : Blk u D dc 128
 res : Blk u w.heap.size #[.string ⟨#[]⟩, .slice none 0 0, .slice none 0 0] 37
 fb : Blk u Fb #[.string m, rvN, rpN] 37
 gv : Grow 4 70 OVar B u rv vs
 gp : Grow 6 68 (OProc0 wq) B u rp ps
 apart : ∀ i, rv.ownBlock = some i → rp.ownBlock ≠ some i
 hD : D < w.heap.size
 hF : w.heap.size < Fb
 hB : Fb < B
 hu : B ≤ u.heap.size
theorem OB.extend {wq w u u' : World} {D Fb B : Nat} {dc : Array Value} {m : ByteArray} {rvN rpN rv rp : Value} {vs : List FVar} {ps : List FProc} (h : OB wq w u D Fb B dc m rvN rpN rv rp vs ps) (hE : Ext u u') : OB wq w u' D Fb B dc m rvN rpN rv rp vs ps :=
 ⟨h.ext.ext hE, h.d.ext hE, h.res.ext hE, h.fb.ext hE, h.gv.chg var_keeps hE (fun _ e => e.elim), h.gp.chg p0_keeps hE (fun _ e => e.elim), h.apart, h.hD, h.hF, h.hB, Nat.le_trans h.hu hE.size⟩
theorem OB.pushV {wq w u u' : World} {D Fb B : Nat} {dc : Array Value} {m : ByteArray} {rvN rpN rv rp r : Value} {vs vs2 : List FVar} {ps : List FProc} (h : OB wq w u D Fb B dc m rvN rpN rv rp vs ps) (hG : Grow 4 70 OVar B u' r vs2) (hC : Chg (fun i => rv.ownBlock = some i) u u') (ha : ∀ i, r.ownBlock = some i → rv.ownBlock = some i ∨ u.heap.size ≤ i) : OB wq w u' D Fb B dc m rvN rpN r rp vs2 ps := by
 have h1 := h.hD; have h2 := h.hF; have h3 := h.hB
 have ho := grow_own h.gv; refine ⟨h.ext.trans hC (fun i hi e => by have := ho i e; omega), h.d.chg hC (fun e => by have := ho _ e; omega), h.res.chg hC (fun e => by have := ho _ e; omega), h.fb.chg hC (fun e => by have := ho _ e; omega), hG, grow_away h.gp p0_any hC (fun i hi hs => h.apart i hs hi), fun i hi e => ?_, h1, h2, h3, Nat.le_trans h.hu hC.size⟩
 rcases ha i hi with h4 | h4
 ·exact h.apart i h4 e
 ·have := grow_own h.gp i e; omega
theorem OB.pushP {wq w u u' : World} {D Fb B : Nat} {dc : Array Value} {m : ByteArray} {rvN rpN rv rp r : Value} {vs : List FVar} {ps ps2 : List FProc} (h : OB wq w u D Fb B dc m rvN rpN rv rp vs ps) (hG : Grow 6 68 (OProc0 wq) B u' r ps2) (hC : Chg (fun i => rp.ownBlock = some i) u u') (ha : ∀ i, r.ownBlock = some i → rp.ownBlock = some i ∨ u.heap.size ≤ i) : OB wq w u' D Fb B dc m rvN rpN rv r vs ps2 := by
 have h1 := h.hD; have h2 := h.hF; have h3 := h.hB
 have ho := grow_own h.gp; refine ⟨h.ext.trans hC (fun i hi e => by have := ho i e; omega), h.d.chg hC (fun e => by have := ho _ e; omega), h.res.chg hC (fun e => by have := ho _ e; omega), h.fb.chg hC (fun e => by have := ho _ e; omega), grow_away h.gv var_any hC (fun i hi hs => h.apart i hi hs), hG, fun i hi e => ?_, h1, h2, h3, Nat.le_trans h.hu hC.size⟩
 rcases ha i e with h4 | h4
 ·exact h.apart i hi h4
 ·have := grow_own h.gv i hi; omega
theorem OB.putV {wq w u : World} {D Fb B : Nat} {dc : Array Value} {m : ByteArray} {rvN rpN rv rp : Value} {vs : List FVar} {ps : List FProc} (h : OB wq w u D Fb B dc m rvN rpN rv rp vs ps) : OB wq w (u.setCell ⟨Fb, 1, none⟩ rv) D Fb B dc m rv rpN rv rp vs ps := by
 have h1 := h.hD; have h2 := h.hF; have h3 := h.hB
 have hC := chg_set (S := Fb) (Chg.refl _ u) 1 rv; exact ⟨h.ext.trans hC (fun i hi e => by omega), h.d.chg hC (by omega), h.res.chg hC (by omega), by have := h.fb.set 1 rv; exact this, h.gv.chg var_keeps hC (fun i e => by omega), h.gp.chg p0_keeps hC (fun i e => by omega), h.apart, h1, h2, h3, Nat.le_trans h.hu hC.size⟩
theorem OB.putP {wq w u : World} {D Fb B : Nat} {dc : Array Value} {m : ByteArray} {rvN rpN rv rp : Value} {vs : List FVar} {ps : List FProc} (h : OB wq w u D Fb B dc m rvN rpN rv rp vs ps) : OB wq w (u.setCell ⟨Fb, 2, none⟩ rp) D Fb B dc m rvN rp rv rp vs ps := by
 have h1 := h.hD; have h2 := h.hF; have h3 := h.hB
 have hC := chg_set (S := Fb) (Chg.refl _ u) 2 rp; exact ⟨h.ext.trans hC (fun i hi e => by omega), h.d.chg hC (by omega), h.res.chg hC (by omega), by have := h.fb.set 2 rp; exact this, h.gv.chg var_keeps hC (fun i e => by omega), h.gp.chg p0_keeps hC (fun i e => by omega), h.apart, h1, h2, h3, Nat.le_trans h.hu hC.size⟩
theorem fresh_own {g c n : Nat} {row : Value} {u : World} (hat : row.ownBlock = some g ∨ g = u.heap.size + 1) : ∀ i, (Value.slice (some ⟨g, 0, none⟩) n c).ownBlock = some i → row.ownBlock = some i ∨ u.heap.size ≤ i := fun i e => by
 have : g = i := by simpa [Value.ownBlock] using e
 subst this; rcases hat with h | h
 ·exact .inl h
 ·exact .inr (by omega)
def FaceX (M : Nat → Bool) (w : World) (x : FFace) (v : Value) : Prop := ∃ a m c d, v = .agg #[.string x.modn, .slice a x.vars.length m, .slice c x.procs.length d] ∧ AllIn 4 VarIn (hide M w) a x.vars ∧
 AllIn 6 ProcIn (hide (fun i => M i || ownB (.slice a x.vars.length m) i) w) c x.procs ∧ x.modn.size ≤ maxLen ∧ x.vars.length ≤ m ∧ m ≤ maxLen ∧ x.procs.length ≤ d ∧ d ≤ maxLen ∧ (a = none ∨ ∃ g cs, a = some ⟨g, 0, none⟩ ∧ M g = false ∧ Blk w g cs 70)
theorem FaceX.at_ {M : Nat → Bool} {w : World} {x : FFace} {v : Value} (h : FaceX M w x v) : FaceAt (hide M w) x v := by
 obtain ⟨a, m, c, d, e, h1, h2, h3, h4, h5, h6, h7, -⟩ := h
 have hK : Keeps (hide (fun i => M i || ownB (.slice a x.vars.length m) i) w) (hide M w) := keeps_hide (Nat.le_refl _) fun i hi hm => by
  simp only [Bool.or_eq_false_iff] at hm; exact ⟨hm.1, rfl⟩
 exact ⟨a, m, c, d, e, h1, h2.keeps hK fun _ _ _ => ProcIn.keeps hK, h3, h4, h5, h6, h7⟩
theorem FaceX.chg {M : Nat → Bool} {S : Nat → Prop} {w w' : World} {x : FFace} {v : Value} (h : FaceX M w x v) (hC : Chg S w w') (hS : ∀ i, S i → M i = true) : FaceX M w' x v := by
 obtain ⟨a, m, c, d, e, h1, h2, h3, h4, h5, h6, h7, h8⟩ := h; have k1 := keeps_chg (M := M) hC fun i _ e => hS i e
 have k2 := keeps_chg (M := fun i => M i || ownB (.slice a x.vars.length m) i) hC fun i _ e => by simp [hS i e]
 refine ⟨a, m, c, d, e, h1.keeps k1 fun _ _ _ => VarIn.keeps k1, h2.keeps k2 fun _ _ _ => ProcIn.keeps k2, h3, h4, h5, h6, h7, ?_⟩
 rcases h8 with h8 | ⟨g, cs, e1, e2, e3⟩
 ·exact .inl h8
 ·exact .inr ⟨g, cs, e1, e2, e3.chg hC fun hs => by rw [hS g hs] at e2; cases e2⟩
theorem FaceX.weak {M M' : Nat → Bool} {w : World} {x : FFace} {v : Value} (h : FaceX M w x v) (hM : ∀ i, M i = false → M' i = false) : FaceX M' w x v := by
 obtain ⟨a, m, c, d, e, h1, h2, h3, h4, h5, h6, h7, h8⟩ := h; have k1 : Keeps (hide M w) (hide M' w) := keeps_hide (Nat.le_refl _) fun i _ hm => ⟨hM i hm, rfl⟩
 have k2 : Keeps (hide (fun i => M i || ownB (.slice a x.vars.length m) i) w) (hide (fun i => M' i || ownB (.slice a x.vars.length m) i) w) := keeps_hide (Nat.le_refl _) fun i _ hm => by
  simp only [Bool.or_eq_false_iff] at hm ⊢; exact ⟨⟨hM i hm.1, hm.2⟩, trivial⟩
 refine ⟨a, m, c, d, e, h1.keeps k1 fun _ _ _ => VarIn.keeps k1, h2.keeps k2 fun _ _ _ => ProcIn.keeps k2, h3, h4, h5, h6, h7, ?_⟩
 rcases h8 with h8 | ⟨g, cs, e1, e2, e3⟩
 ·exact .inl h8
 ·exact .inr ⟨g, cs, e1, hM g e2, e3⟩
theorem row_blk {α : Type} {k : Nat} {E : TypeId} {V : α → Value → World → Prop} {B : Nat} {w : World} {a : Option Addr} {n m : Nat} {l : List α} (h : Grow k E V B w (.slice a n m) l) : a = none ∨ ∃ g cs, a = some ⟨g, 0, none⟩ ∧ B ≤ g ∧ Blk w g cs E := by
 obtain ⟨us, h1, h2, h3⟩ := h.ex; rcases h2.2 with ⟨e, h0⟩ | ⟨g, cap, cur, e, hB, hg, -⟩
 ·injection e with e; exact .inl e
 ·injection e with e; exact .inr ⟨g, _, e, hB, hg⟩
theorem OB.face {M : Nat → Bool} {w u : World} {D Fb B : Nat} {dc : Array Value} {m : ByteArray} {rvN rpN rv rp : Value} {vs : List FVar} {ps : List FProc} (h : OB (hide M w) w u D Fb B dc m rvN rpN rv rp vs ps) (hM : ∀ i, M i = true → i < w.heap.size) (hm : m.size ≤ 10000) {u' : World} {S : Nat → Prop} (hC : Chg S u u') (hS : ∀ i, S i → i < B) (hE : Ext w u') : FaceX M u' ⟨m, vs, ps⟩ (.agg #[.string m, rv, rp]) := by
 have hF := h.hF; have hB := h.hB
 have hgv := h.gv.chg var_keeps hC hS; have hap : ∀ i, rv.ownBlock = some i → B ≤ i := fun i e => (grow_own h.gv i e).1
 have hgp := h.gp.chg p0_keeps hC hS; have hapt := h.apart; obtain ⟨a, n, rfl, h1, h2, h3⟩ := hgv.row var_keeps var_lies; have hblk := row_blk hgv; obtain ⟨us, g1, g2, g3⟩ := hgp.ex; obtain ⟨c, d, rfl, h4, h5, -⟩ := hgp.row p0_keeps p0_lies
 have hK : Keeps (hide (below B) u') (hide M u') := keeps_hide (Nat.le_refl _) fun i hi hb => ⟨by
  cases hq : M i with
  | false => rfl
  | true => have := hM i hq; simp [below] at hb; omega, rfl⟩
 refine ⟨a, n, c, d, rfl, h3.keeps hK fun _ _ _ => varIn_keeps hK, fun j hj => ?_, small _ hm, h1, h2, h4, h5, ?_⟩
 ·rcases g2.2 with ⟨e, h0⟩ | ⟨g, cap, cur, e, hBg, hg, hc1, hc2, hc3, hc4⟩
  ·exact absurd hj (by show ¬ j < ps.length; omega)
  ·injection e with e e2 e3
   subst e; have hj' : j < us.length := by rw [g1]; exact hj
   obtain ⟨q1, q2⟩ := g3 j hj hj'
   have hne : ownB (.slice a vs.length n) g = false := by
    unfold ownB; rw [decide_eq_false_iff_not]; intro e; exact hapt g e rfl
   have hMg : M g = false := by
    cases hq : M g with
    | false => rfl
    | true => have := hM g hq; omega
   have hall : ∀ u ∈ us, u.cells.size = 6 := fun u hu => by
    obtain ⟨q, hq, rfl⟩ := List.getElem_of_mem hu; exact (g3 q (by omega) hq).2
   have hu2 := proc_keeps _ _ _ _ (keeps_chg (M := M) hE fun _ _ e => e.elim) (show OProc _ _ _ from q1)
   have hKM : Keeps (hide M w) (hide (fun i => M i || ownB (.slice a vs.length n) i) u') := keeps_hide hE.size fun i hi hm => ⟨by
    rw [hm, Bool.false_or]; unfold ownB; rw [decide_eq_false_iff_not]; intro e; have := hap i e; omega, hE.block i hi id⟩
   have hu3 := proc_keeps _ _ _ _ hKM (show OProc _ _ _ from q1); refine ⟨g, 0, rfl, by rw [hide_size]; exact (Array.getElem?_eq_some_iff.1 hg).1, ?_⟩
   refine proc_lies _ _ _ _ us[j] hu3 q2 fun i hi => ?_
   rw [hide_cell _ _ _ (by simp [hMg, hne])]
   rw [← flat_at 6 us hall j hj' i hi, ← hc4, List.getElem?_take, if_pos (by
    have : (j + 1) * 6 ≤ ps.length * 6 := Nat.mul_le_mul_right _ hj; rw [Nat.succ_mul] at this; omega)]
   rw [cell_of_row u' g _ cur _ (0, 0) hg]; simp
 ·rcases hblk with e | ⟨g, cs, e, hBg, hb⟩
  ·exact .inl e
  ·refine .inr ⟨g, cs, e, ?_, hb⟩
   cases hq : M g with
   | false => rfl
   | true => have := hM g hq; omega
theorem filt_take {α : Type} (p : α → Bool) {l : List α} {q : Nat} (h : q < l.length) : (l.take (q + 1)).filter p = (l.take q).filter p ++ (if p l[q] = true then [l[q]] else []) := by
 rw [List.take_succ_eq_append_getElem h, List.filter_append]; congr 1
 cases hp : p l[q] <;> simp [hp]
theorem filt_len {α : Type} (p : α → Bool) (l : List α) (q : Nat) : ((l.take q).filter p).length ≤ q := Nat.le_trans (List.length_filter_le _ _) (List.length_take_le q l)
set_option maxRecDepth 100000 in
set_option maxHeartbeats 8000000 in
theorem open_any {M : Nat → Bool} {w : World} {D : Nat} {m : ByteArray} {d3 d4 d5 d6 d7 d8 : Value} {a1 a2 : Option Addr} {c1 c2 : Nat} {xv : List FVar} {xp : List FProc} (hd : Blk w D #[.string m, .slice a1 xv.length c1, .slice a2 xp.length c2, d3, d4, d5, d6, d7, d8] 128) (hv : AllIn 4 VarIn w a1 xv) (hp : AllIn 6 ProcIn (hide M w) a2 xp) (hM : ∀ i, M i = true → i < w.heap.size) (hm : m.size ≤ 10000) (hvz : ∀ x ∈ xv, x.name.size ≤ 10000) (hpz : ∀ x ∈ xp, x.name.size ≤ 10000) (hnv : xv.length ≤ 1000) (hnp : xp.length ≤ 1000) :
  Calls Tryz.prog 55 #[.pointer (some ⟨D, 0, none⟩)] w fun e w' => ∃ v', e = .returned v' ∧ FaceX M w' ⟨m, xv.filter fun v => v.pub, xp.filter fun p => p.pub⟩ v' ∧ Ext w w' := by
 obtain ⟨fv, hfv⟩ : ∃ l, (xv.filter fun v => v.pub) = l := ⟨_, rfl⟩; obtain ⟨fp, hfp⟩ : ∃ l, (xp.filter fun p => p.pub) = l := ⟨_, rfl⟩; rw [hfv, hfp]; have HFV := Z_ hfv; have HFP := Z_ hfp; clear hfv hfp; have HV := Z_ hv; have HPS := Z_ hp; have HM := Z_ hM; have HVZ := Z_ hvz; have HPZ := Z_ hpz; obtain ⟨n1, hn1⟩ : ∃ n, xv.length = n := ⟨_, rfl⟩; obtain ⟨n2, hn2⟩ : ∃ n, xp.length = n := ⟨_, rfl⟩; rw [hn1] at hd hnv; rw [hn2] at hd hnp; have H1 := Z_ hn1; have H2 := Z_ hn2; have hD := hd.lt; have HD := Z_ (hd.alloc (.cells #[.string ⟨#[]⟩, .slice none 0 0, .slice none 0 0] 37)); have HE1 := Z_ ((Chg.refl (fun _ => False) w).alloc (.cells #[.string ⟨#[]⟩, .slice none 0 0, .slice none 0 0] 37)); have HR := Z_ (Blk.made w #[.string ⟨#[]⟩, .slice none 0 0, .slice none 0 0] 37); obtain ⟨dc, hdc⟩ : ∃ dc : Array Value, #[.string m, .slice a1 n1 c1, .slice a2 n2 c2, d3, d4, d5, d6, d7, d8] = dc := ⟨_, rfl⟩
 have HDC := Z_ hdc; clear hv hp hM hn1 hn2 hd hvz hpz hdc; go_enter Tryz.func55, Tryz.ntmps55
 go_upto_region 1 with (fail)
 have hsw : w.heap.size < (w.alloc (.cells #[.string ⟨#[]⟩, .slice none 0 0, .slice none 0 0] 37)).heap.size := by simp
 generalize w.alloc (.cells #[.string ⟨#[]⟩, .slice none 0 0, .slice none 0 0] 37) = w1 at *; have hc := HD.out.cell; go_upto_region 2 with (fail)
 have hL0 : OB (hide M w) w (w1.alloc (.cells #[.string m, .slice none 0 0, .slice none 0 0] 37)) D w1.heap.size (w1.heap.size + 1) dc m (.slice none 0 0) (.slice none 0 0) (.slice none 0 0) (.slice none 0 0) [] [] :=
  ⟨HE1.out.alloc _, by rw [← HDC.out]; exact HD.out.alloc _, HR.out.alloc _, Blk.made _ _ _, Grow.nil _ _ _ _ _, Grow.nil _ _ _ _ _, fun i e => (by cases e), hD, hsw, by omega, by simp⟩
 have HL := Z_ hL0; obtain ⟨Fb, hFb⟩ : ∃ Fb, w1.heap.size = Fb := ⟨_, rfl⟩; rw [hFb] at HL
 try rw [hFb]
 have hc2 := (HD.out.alloc (.cells #[.string m, .slice none 0 0, .slice none 0 0] 37)).cell; clear hc hL0 HE1 HD HR hsw; generalize w1.alloc (.cells #[.string m, .slice none 0 0, .slice none 0 0] 37) = w2 at *; clear hFb; obtain ⟨B, hB⟩ : ∃ B, Fb + 1 = B := ⟨_, rfl⟩; rw [hB] at HL; clear hB; go_wp2_with fail
 clear hc2; go_loopw [20] (fun i wr => ∃ (q : Nat) (rv : Value), q ≤ n1 ∧ i = .int .i64 (q : Nat) ∧ Hid (OB (hide M w) w wr D Fb B dc m rv (.slice none 0 0) rv (.slice none 0 0) ((xv.take q).filter fun v => v.pub) [])) (fun i _ => n1 - (intOf i).toNat)
 case atStart => exact ⟨0, _, Nat.zero_le _, rfl, HL⟩
 clear HL
 case round =>
  obtain ⟨q, rv, hq, rfl, HL⟩ := hrel; by_cases hlt : q < n1
  ·have hqi : (q : Int) < (n1 : Int) := by omega
   have hqd : decide ((q : Int) < (n1 : Int)) = true := by simpa using hqi
   have hql : q < xv.length := by rw [H1.out]; exact hlt
   obtain ⟨b, o, rfl, hb, hin⟩ := HV.out q hql; have hbl := Nat.lt_of_lt_of_le hb HL.out.ext.size; obtain ⟨l0, l1, l2, l3, lz⟩ := VarIn.ext HL.out.ext hb hin; have HOV := Z_ (filt_take (fun v : FVar => v.pub) hql); have hlv := filt_len (fun v : FVar => v.pub) xv q; have hzz := HVZ.out xv[q] (List.getElem_mem hql); generalize xv[q] = y at *; obtain ⟨vn, vp, vl, vz⟩ := y; simp only at l0 l1 l2 l3 hzz; clear hin lz; generalize ((xv.take q).filter fun v => v.pub) = fs at *; have HL6 := Z_ (HL.out.extend ((Chg.refl (fun _ => False) wr).alloc (.cells #[.string vn, .bool vp, .int .i64 vl, .int .i64 vz] 70))); have HV6 := Z_ (Blk.made wr #[.string vn, .bool vp, .int .i64 vl, .int .i64 vz] 70); obtain ⟨Vb, hVb⟩ : ∃ Vb, wr.heap.size = Vb := ⟨_, rfl⟩; rw [hVb] at HV6; go_upto_region 5 with (fail)
   try rw [hVb]
   generalize wr.alloc (.cells #[.string vn, .bool vp, .int .i64 vl, .int .i64 vz] 70) = u6 at *; clear l0 l1 l2 l3 HL hVb; have hv := HV6.out.cell; cases vp with
   | false =>
    go_wp2_with fail
    go_roundw
    case rel => exact ⟨q + 1, _, by omega, by go_num, by rw [HOV.out, if_neg (by simp), List.append_nil]; exact HL6⟩
    case measure => simp [intOf]; omega
   | true =>
    obtain ⟨ra, rc, hrow, -, -⟩ := grow_slice HL6.out.gv; subst hrow; obtain ⟨us, hu1, ho, hu3⟩ := HL6.out.gv.ex; have HO := Z_ ho; have HU9 := Z_ (And.intro hu1 hu3); have hfc := HL6.out.fb.cell; have hff := HL6.out.fb.frozen; have hfl := HL6.out.fb.lt; have hub := HL6.out.hu; obtain ⟨i0_, hi_, hz0, hz1, hz2⟩ := info_split info_var; clear ho hu1 hu3; go_wp2_with (at_builtin; refine wpList_append_lies _ rfl _ _ 34 rfl B 70 i0_ (.agg #[.string ⟨#[]⟩, .bool false, .int .i64 0, .int .i64 0]) 4 40 Tryz.underlying34 hi_ hz0 hz1 hz2 rfl (by decide) (.slice ra fs.length rc) fs.length (us.flatMap fun u => u.cells.toList) rfl (HO.out.alloc _) ⟨u6.heap.size, 0, none⟩ 1 1 [.string vn, .bool true, .int .i64 vl, .int .i64 vz] rfl rfl (by intro j z_ hj; have e : (⟨u6.heap.size, 0, none⟩ : Addr).add j = ⟨u6.heap.size, j, none⟩ := (by unfold Addr.add; split <;> simp_all); rw [e, (Blk.made u6 _ _).cell]; simpa using hj) (by intro z_ hz_; simp only [List.mem_cons, List.not_mem_nil, or_false] at hz_; rcases hz_ with rfl | rfl | rfl | rfl <;> rfl) (by decide) (by unfold maxLen; omega) (by omega) (by simp; omega) (u6.heap.size + 1) (by simp) ?_; intro g c' w7 hown hgrow hat hlt1; have HPU := Z_ (pushedG var_keeps HU9.out.1 HU9.out.2 (x := ⟨vn, true, vl, vz⟩) (v := .agg #[.string vn, .bool true, .int .i64 vl, .int .i64 vz]) ⟨rfl, hzz⟩ rfl hown hgrow hat); have HL7 := Z_ (HL6.out.pushV HPU.out.1 HPU.out.2 (fresh_own hat)); have q1 := HL7.out.fb.cell; have q1f := HL7.out.fb.frozen; have q1l := HL7.out.fb.lt; clear hown hgrow hat hfc hff hfl hv)
    have HL8 := Z_ HL7.out.putV; clear q1 q1f q1l HPU; go_roundw
    case rel => exact ⟨q + 1, _, by omega, by go_num, by rw [HOV.out, if_pos (by simp)]; exact HL8⟩
    case measure => simp [intOf]; omega
  ·obtain rfl : q = n1 := by omega
   have hqd : decide ((q : Int) < (q : Int)) = false := by simp
   have hT : xv.take q = xv := List.take_of_length_le (by rw [H1.out]; exact Nat.le_refl _); rw [hT, HFV.out] at HL; have hc := HL.out.d.cell; rw [← HDC.out] at hc; obtain ⟨wo, rfl⟩ : ∃ wo, wo = wr := ⟨_, rfl⟩; go_wp2_with fail
   clear hc; go_loopw [39] (fun i wr => ∃ (q : Nat) (rv rp : Value), q ≤ n2 ∧ i = .int .i64 (q : Nat) ∧ Hid (OB (hide M w) w wr D Fb B dc m rv rp rv rp fv ((xp.take q).filter fun p => p.pub))) (fun i _ => n2 - (intOf i).toNat)
   case atStart => exact ⟨0, _, _, Nat.zero_le _, rfl, by show Hid (OB (hide M w) w _ D Fb B dc m _ _ _ _ _ []); exact HL⟩
   clear HL
   case round =>
    obtain ⟨q, rv, rp, hq, rfl, HL⟩ := hrel; by_cases hlt : q < n2
    ·have hqi : (q : Int) < (n2 : Int) := by omega
     have hqd : decide ((q : Int) < (n2 : Int)) = true := by simpa using hqi
     have hql : q < xp.length := by rw [H2.out]; exact hlt
     obtain ⟨b, o, rfl, hb, hin⟩ := HPS.out q hql; rw [hide_size] at hb; have hbl := Nat.lt_of_lt_of_le hb HL.out.ext.size; have hin0 := hin; replace hin := ProcIn.keeps (keeps_bare M w) hin; obtain ⟨l0, l1, ⟨pa0, pc0, l2, -⟩, l3, l4, l5, lz⟩ := ProcIn.ext HL.out.ext hb hin; obtain ⟨-, -, ⟨pa, pc, m2, m2i, m2c, m2d⟩, -⟩ := hin0; have hpe : pa0 = pa ∧ pc0 = pc := by have := (HL.out.ext.cell (p := ⟨b, o + q * 6 + 2, none⟩) hb id).symm.trans l2; rw [(keeps_bare M w).2 _ _ m2] at this; cases this; exact ⟨rfl, rfl⟩
     obtain ⟨rfl, rfl⟩ := hpe; have HOV := Z_ (filt_take (fun p : FProc => p.pub) hql); have hlv := filt_len (fun p : FProc => p.pub) xp q; have hzz := HPZ.out xp[q] (List.getElem_mem hql); generalize xp[q] = y at *; obtain ⟨vn, vp, pl, vw, vg, vi⟩ := y; simp only at l0 l1 l2 l3 l4 l5 hzz m2i m2c; have HX9 := Z_ (show OProc ⟨vn, vp, pl, vw, vg, vi⟩ (.agg #[.string vn, .bool vp, .slice pa0 pl.length pc0, .int .i64 vw, .bool vg, .int .i64 vi]) (hide M w) from ⟨pa0, pc0, rfl, m2i, m2c, m2d, hzz⟩); clear hin lz m2 m2i m2c m2d; generalize ((xp.take q).filter fun p => p.pub) = fs at *; have HL6 := Z_ (HL.out.extend ((Chg.refl (fun _ => False) wr).alloc (.cells #[.string vn, .bool vp, .slice pa0 pl.length pc0, .int .i64 vw, .bool vg, .int .i64 vi] 68))); have HV6 := Z_ (Blk.made wr #[.string vn, .bool vp, .slice pa0 pl.length pc0, .int .i64 vw, .bool vg, .int .i64 vi] 68)
     obtain ⟨Vb, hVb⟩ : ∃ Vb, wr.heap.size = Vb := ⟨_, rfl⟩; rw [hVb] at HV6; go_upto_region 11 with (fail)
     try rw [hVb]
     generalize wr.alloc (.cells #[.string vn, .bool vp, .slice pa0 pl.length pc0, .int .i64 vw, .bool vg, .int .i64 vi] 68) = u6 at *; clear l0 l1 l2 l3 l4 l5 HL hVb; have hv := HV6.out.cell; cases vp with
     | false =>
      go_wp2_with fail
      go_roundw
      case rel => exact ⟨q + 1, _, _, by omega, by go_num, by rw [HOV.out, if_neg (by simp), List.append_nil]; exact HL6⟩
      case measure => simp [intOf]; omega
     | true =>
      obtain ⟨ra, rc, hrow, -, -⟩ := grow_slice HL6.out.gp; subst hrow; obtain ⟨us, hu1, ho, hu3⟩ := HL6.out.gp.ex; have HO := Z_ ho; have HU9 := Z_ (And.intro hu1 hu3); have hfc := HL6.out.fb.cell; have hff := HL6.out.fb.frozen; have hfl := HL6.out.fb.lt; have hub := HL6.out.hu; obtain ⟨i0_, hi_, hz0, hz1, hz2⟩ := info_split info_proc; clear ho hu1 hu3; go_wp2_with (at_builtin; refine wpList_append_lies _ rfl _ _ 35 rfl B 68 i0_ (.agg #[.string ⟨#[]⟩, .bool false, .slice none 0 0, .int .i64 0, .bool false, .int .i64 0]) 6 72 Tryz.underlying35 hi_ hz0 hz1 hz2 rfl (by decide) (.slice ra fs.length rc) fs.length (us.flatMap fun u => u.cells.toList) rfl (HO.out.alloc _) ⟨u6.heap.size, 0, none⟩ 1 1 [.string vn, .bool true, .slice pa0 pl.length pc0, .int .i64 vw, .bool vg, .int .i64 vi] rfl rfl (by intro j z_ hj; have e : (⟨u6.heap.size, 0, none⟩ : Addr).add j = ⟨u6.heap.size, j, none⟩ := (by unfold Addr.add; split <;> simp_all); rw [e, (Blk.made u6 _ _).cell]; simpa using hj) (by intro z_ hz_; simp only [List.mem_cons, List.not_mem_nil, or_false] at hz_; rcases hz_ with rfl | rfl | rfl | rfl | rfl | rfl <;> rfl) (by decide) (by unfold maxLen; omega) (by omega) (by simp; omega) (u6.heap.size + 1) (by simp) ?_; intro g c' w7 hown hgrow hat hlt1; have HPU := Z_ (pushedG p0_keeps HU9.out.1 HU9.out.2 (x := ⟨vn, true, pl, vw, vg, vi⟩) (v := .agg #[.string vn, .bool true, .slice pa0 pl.length pc0, .int .i64 vw, .bool vg, .int .i64 vi]) (show OProc0 (hide M w) ⟨vn, true, pl, vw, vg, vi⟩ (.agg #[.string vn, .bool true, .slice pa0 pl.length pc0, .int .i64 vw, .bool vg, .int .i64 vi]) _ from HX9.out) rfl hown hgrow hat); have HL7 := Z_ (HL6.out.pushP HPU.out.1 HPU.out.2 (fresh_own hat)); have q1 := HL7.out.fb.cell; have q1f := HL7.out.fb.frozen; have q1l := HL7.out.fb.lt; clear hown hgrow hat hfc hff hfl hv)
      have HL8 := Z_ HL7.out.putP; clear q1 q1f q1l HPU; go_roundw
      case rel => exact ⟨q + 1, _, _, by omega, by go_num, by rw [HOV.out, if_pos (by simp)]; exact HL8⟩
      case measure => simp [intOf]; omega
    ·obtain rfl : q = n2 := by omega
     have hqd : decide ((q : Int) < (q : Int)) = false := by simp
     have hT : xp.take q = xp := List.take_of_length_le (by rw [H2.out]; exact Nat.le_refl _); rw [hT, HFP.out] at HL; obtain ⟨a3, c3, hr1, -, -⟩ := grow_slice HL.out.gv; obtain ⟨a4, c4, hr2, -, -⟩ := grow_slice HL.out.gp; subst hr1 hr2; have hfc := HL.out.fb.cell; have hr := HL.out.res.cell; have hrf := HL.out.res.frozen; have hrl := HL.out.res.lt; go_wp2_with fail
     have hC1 := chg_set (S := w.heap.size) (Chg.refl _ wr) 0 (.string m); have hC2 := chg_set hC1 1 (.slice a3 fv.length c3); have hC3 := chg_set hC2 2 (.slice a4 fp.length c4); have hE9 := HL.out.ext.trans hC3 (fun i hi e => by omega); have hface := HL.out.face HM.out hm hC3 (fun i e => by have := HL.out.hF; have := HL.out.hB; omega) hE9; have HR9 := Z_ (((HL.out.res.set 0 (.string m)).set 1 (.slice a3 fv.length c3)).set 2 (.slice a4 fp.length c4)); refine ends_at rfl rfl rfl HR9.out Tryz.underlying37 rfl (by kernel_rfl) ?_
     simp only [List.setIfInBounds_toArray, List.set_cons_succ, List.set_cons_zero]; exact ⟨_, rfl, hface, hE9⟩
end ofn
end Go.Proofs.YtpcihajmcejliacGreatDoor
namespace Go.Proofs.YtpcihajmcejliacGreatDoor
open Go.RowKit
namespace ofq
open synw ofp ofd
theorem noRow_at (w : World) : RowAt 1 StrIn [] (.slice none 0 0) w := ⟨none, 0, rfl, Nat.le_refl _, by decide, fun j h => (by cases h)⟩
theorem results_c1c {P : Program} {fn : Func} {p m q : Tmp} {ty ty2 : TypeId} (h : fn.results = #[.cell p ty, .tmp m, .cell q ty2]) (tmps : Array Value) (w : World) {g g2 : Nat} {T T2 : TypeId} {cs cs2 : Array Value} {d d2 : TypeDesc}
  (hp : tmps.getD p undef = .pointer (some ⟨g, 0, none⟩)) (hg : Blk w g cs T) (hu : P.underlying ty = some d) (hd : (match d with | .struct _ | .array _ _ => true | _ => false) = true) (hi : (P.info? ty).map (·.size) = some cs.size)
  (hq : tmps.getD q undef = .pointer (some ⟨g2, 0, none⟩)) (hg2 : Blk w g2 cs2 T2) (hu2 : P.underlying ty2 = some d2) (hd2 : (match d2 with | .struct _ | .array _ _ => true | _ => false) = true) (hi2 : (P.info? ty2).map (·.size) = some cs2.size) {v : Value} (hm : tmps.getD m undef = v) :
  (results fn tmps).run P w = .ok (.tuple #[.agg cs, v, .agg cs2]) w := by
 have hp' : tmps[p]?.getD undef = .pointer (some ⟨g, 0, none⟩) := by simpa using hp
 have hq' : tmps[q]?.getD undef = .pointer (some ⟨g2, 0, none⟩) := by simpa using hq
 have hm' : tmps[m]?.getD undef = v := by simpa using hm
 simp [results, h, hp', hq', hm', asAddr, run_loadVar_row w g T ty cs (0, 0) d hg hu hd hi, run_loadVar_row w g2 T2 ty2 cs2 (0, 0) d2 hg2 hu2 hd2 hi2]
structure OQ (w u : World) (R F V : Nat) (fc : Array Value) (z0 z1 c a : Int) : Prop where
 ext : Ext w u
 rf : Blk u R fc 37
 rz : Blk u F #[.int .i64 z0, .int .i64 z1] 27
 vb : Blk u V #[.int .i64 c, .int .i64 a] 27
 hw : w.heap.size ≤ R
 hRF : R < F
 hFV : F < V
theorem OQ.extend {w u u' : World} {R F V : Nat} {fc : Array Value} {z0 z1 c a : Int} (h : OQ w u R F V fc z0 z1 c a) (hE : Ext u u') : OQ w u' R F V fc z0 z1 c a :=
 ⟨h.ext.ext hE, h.rf.ext hE, h.rz.ext hE, h.vb.ext hE, h.hw, h.hRF, h.hFV⟩
theorem OQ.setF {w u : World} {R F V : Nat} {fc : Array Value} {z0 z1 c a : Int} (h : OQ w u R F V fc z0 z1 c a) : OQ w ((u.setCell ⟨F, 0, none⟩ (.int .i64 c)).setCell ⟨F, 1, none⟩ (.int .i64 a)) R F V fc c a c a := by
 have h1 := h.hw; have h2 := h.hRF; have h3 := h.hFV
 have hC := chg_set (chg_set (S := F) (Chg.refl _ u) 0 (.int .i64 c)) 1 (.int .i64 a); exact ⟨h.ext.trans hC (fun i hi e => by omega), h.rf.chg hC (by omega), (h.rz.set 0 _).set 1 _, h.vb.chg hC (by omega), h1, h2, h3⟩
theorem OQ.setR {w u : World} {R F V : Nat} {p q r : Value} {z0 z1 c a : Int} (h : OQ w u R F V #[p, q, r] z0 z1 c a) (p' q' r' : Value) : OQ w (((u.setCell ⟨R, 0, none⟩ p').setCell ⟨R, 1, none⟩ q').setCell ⟨R, 2, none⟩ r') R F V #[p', q', r'] z0 z1 c a := by
 have h1 := h.hw; have h2 := h.hRF; have h3 := h.hFV
 have hC := chg_set (chg_set (chg_set (S := R) (Chg.refl _ u) 0 p') 1 q') 2 r'; exact ⟨h.ext.trans hC (fun i hi e => by omega), ((h.rf.set 0 _).set 1 _).set 2 _, h.rz.chg hC (by omega), h.vb.chg hC (by omega), h1, h2, h3⟩
def QC (w w1 : World) (R F V D : Nat) (dc : Array Value) (vi : Value) (f : FFace) (is : List ByteArray) : List Value → World → Prop
 | [], u => OQ w u R F V #[.string ⟨#[]⟩, .slice none 0 0, .slice none 0 0] 0 0 0 0 ∧ Blk u D dc 128 ∧ Ext w1 u
 | [vf], u => OQ w u R F V #[.string ⟨#[]⟩, .slice none 0 0, .slice none 0 0] 0 0 0 0 ∧ Blk u D dc 128 ∧ RowAt 1 StrIn is vi (hide (below (F + 1)) u) ∧ ofn.FaceX (below (F + 1)) u f vf
 | [vf, _], u => OQ w u R F V vf.cells 0 0 0 0 ∧ Blk u D dc 128 ∧ RowAt 1 StrIn is vi (hide (below (F + 1)) u) ∧ ofn.FaceX (below (F + 1)) u f vf
 | [vf, _, v2], u => v2 = vi ∧ OQ w u R F V vf.cells 0 0 0 0 ∧ Blk u D dc 128 ∧ RowAt 1 StrIn is vi (hide (below (F + 1)) u) ∧ ofn.FaceX (below (F + 1)) u f vf
 | [vf, _, v2, _], u => v2 = vi ∧ OQ w u R F V vf.cells 0 0 0 0 ∧ Blk u D dc 128 ∧ RowAt 1 StrIn is vi (hide (below (F + 1)) u) ∧ ofn.FaceX (below (F + 1)) u f vf
 | _, _ => False
theorem QC.any {w w1 : World} {R F V D : Nat} {dc : Array Value} {vi : Value} {f : FFace} {is : List ByteArray} {vs : List Value} {u : World} (h : QC w w1 R F V D dc vi f is vs u) : (∃ fc, OQ w u R F V fc 0 0 0 0) ∧ Blk u D dc 128 := by
 match vs, h with
 | [], h => exact ⟨⟨_, h.1⟩, h.2.1⟩
 | [_], h => exact ⟨⟨_, h.1⟩, h.2.1⟩
 | [_, _], h => exact ⟨⟨_, h.1⟩, h.2.1⟩
 | [_, _, _], h => exact ⟨⟨_, h.2.1⟩, h.2.2.1⟩
 | [_, _, _, _], h => exact ⟨⟨_, h.2.1⟩, h.2.2.1⟩
def OfPostX (w : World) (R : FFace × List ByteArray × Int × Int) (e : Ending) (w' : World) : Prop :=
 Ext w w' ∧ ∃ vF vI, e = .returned (.tuple #[vF, vI, .agg #[.int .i64 R.2.2.1, .int .i64 R.2.2.2]]) ∧ ofn.FaceX (below w.heap.size) w' R.1 vF ∧ RowAt 1 StrIn R.2.1 vI w'
theorem OfPostX.post {w : World} {R : FFace × List ByteArray × Int × Int} {e : Ending} {w' : World} (h : OfPostX w R e w') : OfPost w R e w' := by
 obtain ⟨h1, vF, vI, h2, h3, h4⟩ := h; exact ⟨h1, vF, vI, h2, FaceAt.keeps (keeps_bare _ _) h3.at_, h4⟩
theorem noFace_x (M : Nat → Bool) (w : World) : ofn.FaceX M w noFace (.agg #[.string ⟨#[]⟩, .slice none 0 0, .slice none 0 0]) :=
 ⟨none, 0, none, 0, rfl, fun j h => (by cases h), fun j h => (by cases h), by decide, Nat.le_refl _, by decide, Nat.le_refl _, by decide, .inl rfl⟩
theorem rowAt_keepsH {l : List ByteArray} {v : Value} {w w' : World} (h : RowAt 1 StrIn l v w) (hk : Keeps w w') : RowAt 1 StrIn l v w' := h.keeps (fun _ _ _ h => ⟨hk.2 _ _ h.1, h.2⟩) hk
theorem vars_small {l : List Nd} (h : ∀ y ∈ l, y.tx.size ≤ 10000) : ∀ x ∈ varsF l, x.name.size ≤ 10000 := fun x hx => by
 unfold varsF at hx; obtain ⟨y, hy, rfl⟩ := List.mem_map.1 hx; exact h y (List.mem_filter.1 hy).1
theorem procs_small {l : List Nd} (h : ∀ y ∈ l, y.tx.size ≤ 10000) : ∀ x ∈ procsF l, x.name.size ≤ 10000 := fun x hx => by
 unfold procsF at hx; obtain ⟨y, hy, rfl⟩ := List.mem_map.1 hx; exact h y (List.mem_filter.1 hy).1
set_option maxRecDepth 100000 in
set_option maxHeartbeats 8000000 in
theorem of_any (s : ByteArray) (w : World) (hs : s.size ≤ 9223372036854775807) (hv : ErrVar w) (hm : MaxVar w) :
  Calls Tryz.prog 18 #[.string s] w (OfPostX w (ofR s)) := by
 obtain ⟨x, hx⟩ : ∃ x, (parseR s).1 = x := ⟨_, rfl⟩; obtain ⟨Q, hQ⟩ : ∃ Q, ofR s = Q := ⟨_, rfl⟩; obtain ⟨R, hR⟩ : ∃ R, w.heap.size = R := ⟨_, rfl⟩; obtain ⟨F, hF⟩ : ∃ F, R + 1 = F := ⟨_, rfl⟩; have hR0 := (Blk.made w #[.string ⟨#[]⟩, .slice none 0 0, .slice none 0 0] 37).alloc (.cells #[.int .i64 0, .int .i64 0] 27); have hF0 := Blk.made2 w (.cells #[.string ⟨#[]⟩, .slice none 0 0, .slice none 0 0] 37) #[.int .i64 0, .int .i64 0] 27; have hz0 : ((w.alloc (.cells #[.string ⟨#[]⟩, .slice none 0 0, .slice none 0 0] 37)).alloc (.cells #[.int .i64 0, .int .i64 0] 27)).heap.size = F + 1 := by simp; omega
 rw [hR] at hR0 hF0; rw [hF] at hF0; have hX0 := ((Chg.refl (fun _ => False) w).alloc (.cells #[.string ⟨#[]⟩, .slice none 0 0, .slice none 0 0] 37)).alloc (.cells #[.int .i64 0, .int .i64 0] 27); have HC := Z_ (oflk.look_any s _ hs (hv.ext hX0) (hm.ext hX0)); rw [hx, hQ] at HC
 have HQD := Z_ (show Q.2.2.1 = 0 → Q = (faceF false x, impsF x.kids, 0, 0) by
  intro h0; subst hQ; subst hx; unfold ofR at h0 ⊢; by_cases h1 : (parseR s).2.1 = 0
  ·rw [if_pos h1] at h0 ⊢
   by_cases h2 : (lookF (parseR s).1.tx (parseR s).1.kids [] [] 1).1 = 0
   ·rw [if_pos h2]
   ·rw [if_neg h2] at h0; exact absurd h0 h2
  ·rw [if_neg h1] at h0; exact absurd h0 h1)
 have HQN := Z_ (show Q.2.2.1 ≠ 0 → Q = (noFace, [], Q.2.2.1, Q.2.2.2) by
  intro h0; subst hQ; unfold ofR at h0 ⊢; by_cases h1 : (parseR s).2.1 = 0
  ·rw [if_pos h1] at h0 ⊢
   by_cases h2 : (lookF (parseR s).1.tx (parseR s).1.kids [] [] 1).1 = 0
   ·rw [if_pos h2] at h0; exact absurd rfl h0
   ·rw [if_neg h2]
  ·rw [if_neg h1])
 have HA0 := Z_ (show Q.2.2.1 = 0 → Q.2.2.2 = 0 from fun h => by rw [HQD.out h]); rw [hQ]; have hRF : R < F := by omega
 have HR0 := Z_ hR0; have HF0 := Z_ hF0; have HX0 := Z_ hX0; have HZ0 := Z_ hz0; have HRW := Z_ hR; clear hx hQ hR0 hF0 hX0 hz0 hv hm hR; go_enter Tryz.func18, Tryz.ntmps18
 go_upto_region 1 with (fail)
 try rw [HRW.out]
 try rw [hF]
 generalize (w.alloc (.cells #[.string ⟨#[]⟩, .slice none 0 0, .slice none 0 0] 37)).alloc (.cells #[.int .i64 0, .int .i64 0] 27) = u0 at *; go_wp2_with fail
 refine HC.out.mono ?_
 rintro e w1 ⟨hE1, vp, rfl, hgood⟩; obtain ⟨c, hc⟩ : ∃ c, Q.2.2.1 = c := ⟨_, rfl⟩; obtain ⟨a, ha⟩ : ∃ a, Q.2.2.2 = a := ⟨_, rfl⟩; rw [hc] at hgood HQD HQN; rw [ha] at HQN; rw [hc, ha] at HA0; rw [hc, ha]; have HGD := Z_ hgood; have hEN := (Chg.refl (fun _ => False) w1).alloc (.cells #[.int .i64 c, .int .i64 a] 27)
 have hOQ : OQ w (w1.alloc (.cells #[.int .i64 c, .int .i64 a] 27)) R F w1.heap.size #[.string ⟨#[]⟩, .slice none 0 0, .slice none 0 0] 0 0 c a :=
  ⟨(HX0.out.ext hE1).ext hEN, (HR0.out.ext hE1).ext hEN, (HF0.out.ext hE1).ext hEN, Blk.made w1 _ _, by have := HRW.out; omega, hRF, by have := (HF0.out.ext hE1).lt; omega⟩
 have HO := Z_ hOQ; have HEN := Z_ hEN; have HF1 := Z_ (HF0.out.ext hE1).lt; obtain ⟨V, hV⟩ : ∃ V, w1.heap.size = V := ⟨_, rfl⟩; rw [hV] at HO; clear hOQ hEN hgood hE1 HC HR0 HF0 HX0 hc ha; go_upto_region 2 with (fail)
 try rw [hV]
 generalize w1.alloc (.cells #[.int .i64 c, .int .i64 a] 27) = u1 at *; clear hV; have hv := HO.out.vb.cell; by_cases hc0 : c = 0
 ·subst hc0
  have HQ3 := Z_ (HQD.out rfl); obtain ⟨D, a1, c1, a2, c2, a3, c3, d3, d4, d5, d6, d8, rfl, -, -, hD, hAV, hAP, hAI, hlv, hlp, htx, hky⟩ := HGD.out rfl; obtain rfl : a = 0 := HA0.out rfl; rw [HZ0.out] at hAV hAP hAI; have HD := Z_ hD; have HAV := Z_ hAV; have HAP := Z_ hAP; have HAI := Z_ hAI; have HKY := Z_ (And.intro htx hky); have HLN := Z_ (And.intro hlv hlp); obtain ⟨dc, hdc⟩ : ∃ dc : Array Value, #[.string x.tx, .slice a1 (varsF x.kids).length c1, .slice a2 (procsF x.kids).length c2, d3, d4, d5, d6, .slice a3 (impsF x.kids).length c3, d8] = dc := ⟨_, rfl⟩; have HDC := Z_ hdc; have HDB := Z_ (show Blk u1 D dc 128 from hdc ▸ hD.ext HEN.out); obtain ⟨nI, hnI⟩ : ∃ n, (impsF x.kids).length = n := ⟨_, rfl⟩; rw [hnI] at hdc HAI; have HD7 := Z_ (show dc[7]? = some (.slice a3 nI c3) by rw [← hdc]; rfl); clear hD hAV hAP hAI hlv hlp htx hky hdc hnI HD HGD HQD HQN
  go_upto_region 4 with (fail)
  clear hv; refine wp_region_weave [1, 7, 8, 9] (fun i v _ => v = ([.pointer (some ⟨D, 0, none⟩), undef, .pointer (some ⟨D, 0, none⟩), .pointer (some ⟨D, 0, none⟩), .pointer (some ⟨D, 7, none⟩), .slice a3 nI c3, .agg #[.int .i64 0, .int .i64 0], undef, undef, undef] : List Value).getD i undef) (QC w u1 R F V D dc (.slice a3 nI c3) (faceF false x) (impsF x.kids)) (fun _ _ => True) (frame := ?frab) (fun x => ?hfab) synw.mixed (by kernel_rfl) (by kernel_rfl) (fun _ _ _ _ h _ => h) ?h0b ?stb ?finb
  case hfab =>
   simp only [chain.frameOf, chain.fill, chain.setOpt, chain.dstOf, List.size_toArray, List.length_cons, List.length_nil, List.getElem?_toArray, List.getElem?_cons_succ, List.getElem?_cons_zero, List.setIfInBounds_toArray, List.set_cons_succ, List.set_cons_zero]; exact rfl
  case h0b => exact ⟨HO.out.extend (Chg.refl _ _).drew, HDB.out.ext (Chg.refl _ _).drew, (Chg.refl _ _).drew⟩
  case stb =>
   refine AllFrom.cons (fun x vs u hF hm hb hd K' hK' => ?sb0) (AllFrom.cons (fun x vs u hF hm hb hd K' hK' => ?sb1) (AllFrom.cons (fun x vs u hF hm hb hd K' hK' => ?sb2) (AllFrom.cons (fun x vs u hF hm hb hd K' hK' => ?sb3) (AllFrom.cons (fun x vs u hF hm hb hd K' hK' => ?sb4) (AllFrom.cons (fun x vs u hF hm hb hd K' hK' => ?sb5) (AllFrom.cons (fun x vs u hF hm hb hd K' hK' => ?sb6) (AllFrom.cons (fun x vs u hF hm hb hd K' hK' => ?sb7) (AllFrom.cons (fun x vs u hF hm hb hd K' hK' => ?sb8) (AllFrom.cons (fun x vs u hF hm hb hd K' hK' => ?sb9) (AllFrom.nil))))))))))
   case sb0 =>
    have HF := Z_ hF; clear hd hm hb hF; go_simp; exact hK'.out _ _ _ (rfl) trivial ⟨rfl, HF.out⟩
   case sb1 =>
    obtain rfl := List.eq_nil_of_length_eq_zero (hm 0 (by kernel_rfl)); have y0 := hd 0 (by decide) (by kernel_rfl); replace y0 : x 17 = .pointer (some ⟨D, 0, none⟩) := y0; obtain ⟨hAA, hDD, hEE⟩ := hF; have HK9 := Z_ (show Keeps (hide (below (F + 1)) w1) (hide (below (F + 1)) u) from keeps_chg (HEN.out.ext hEE) fun _ _ e => e.elim); have HX := Z_ (ofn.open_any (M := below (F + 1)) (w := u) (by rw [HDC.out]; exact hDD) ((HAV.out.keeps HK9.out fun _ _ _ => VarIn.keeps HK9.out).keeps (keeps_bare _ _) fun _ _ _ => VarIn.keeps (keeps_bare _ _)) (HAP.out.keeps HK9.out fun _ _ _ => ProcIn.keeps HK9.out) (fun i hi => by have := HF1.out; have h2 := (HEN.out.ext hEE).size; simp [below] at hi; omega) HKY.out.1 (vars_small HKY.out.2) (procs_small HKY.out.2) HLN.out.1 HLN.out.2); have HAA := Z_ (show OQ _ _ _ _ _ _ _ _ _ _ from hAA); have HDD := Z_ (show Blk _ _ _ _ from hDD); clear hd hm hb hAA hEE hDD
    go_simp; refine HX.out.mono ?_
    rintro e u2 ⟨vf, rfl, hface, hE⟩; exact hK'.out _ _ _ (by simp only [y0]; rfl) trivial ⟨HAA.out.extend hE, HDD.out.ext hE, rowAt_keepsH (HAI.out) ((HK9.out).trans (keeps_chg hE fun _ _ e => e.elim)), hface⟩
   case sb2 =>
    have HF := Z_ hF; clear hd hm hb hF; go_simp; exact hK'.out _ _ _ (rfl) trivial ⟨rfl, HF.out⟩
   case sb3 =>
    obtain ⟨⟨_, hAA⟩, hDD⟩ := QC.any hF; have hq := hDD.lt; clear hAA hDD; have y0 := hd 2 (by decide) (by kernel_rfl); replace y0 : x 19 = .pointer (some ⟨D, 0, none⟩) := y0; have HF := Z_ hF; clear hd hm hb hF; go_simp; exact hK'.out _ _ _ (by simp only [y0]; rfl) trivial ⟨rfl, HF.out⟩
   case sb4 =>
    have y0 := hd 3 (by decide) (by kernel_rfl); replace y0 : x 20 = .pointer (some ⟨D, 0, none⟩) := y0; have HF := Z_ hF; clear hd hm hb hF; go_simp; exact hK'.out _ _ _ (by simp only [y0]; rfl) trivial ⟨rfl, HF.out⟩
   case sb5 =>
    obtain ⟨⟨_, hAA⟩, hDD⟩ := QC.any hF; have hq := (hDD.cell 7).trans HD7.out; clear hAA hDD; have y0 := hd 4 (by decide) (by kernel_rfl); replace y0 : x 21 = .pointer (some ⟨D, 7, none⟩) := y0; have HF := Z_ hF; clear hd hm hb hF; go_simp; exact hK'.out _ _ _ (by simp only [y0]; rfl) trivial ⟨rfl, HF.out⟩
   case sb6 =>
    obtain ⟨⟨_, hAA⟩, hDD⟩ := QC.any hF; have hq := hAA.vb.cell; clear hAA hDD; have HF := Z_ hF; clear hd hm hb hF; go_simp; exact hK'.out _ _ _ (rfl) trivial ⟨rfl, HF.out⟩
   case sb7 =>
    obtain ⟨v0, rfl⟩ : ∃ v0, vs = [v0] := by match vs, hm 1 (by kernel_rfl) with | [v0], _ => exact ⟨_, rfl⟩
    have y0 := hd 1 (by decide) (by kernel_rfl) 18 (by kernel_rfl); replace y0 : x 18 = v0 := y0; obtain ⟨hAA, hDD, hRA, hFA⟩ := hF; have hfo : ∃ sn fa n1 fm fc n2 fd, v0 = .agg #[.string sn, .slice fa n1 fm, .slice fc n2 fd] := by obtain ⟨a_, m_, c_, d_, e_, -⟩ := id hFA; exact ⟨_, _, _, _, _, _, _, e_⟩
    obtain ⟨sn, fa, n1, fm, fc, n2, fd, rfl⟩ := hfo; have hq := hAA.rf.cell; have hf := hAA.rf.frozen; have hl := hAA.rf.lt; have HDR := Z_ (show D ≠ R from fun e => by subst e; unfold Blk at hDD; have := hAA.rf; unfold Blk at this; rw [hDD] at this; cases this); have HAA := Z_ hAA; have HFA := Z_ hFA; have HRA := Z_ hRA; have HDD := Z_ hDD; clear hd hm hb hAA hFA hRA hDD; go_simp; have hC := chg_set (chg_set (chg_set (S := R) (Chg.refl _ u) 0 (.string sn)) 1 (.slice fa n1 fm)) 2 (.slice fc n2 fd); exact hK'.out _ _ undef (by simp only [y0]; rfl) trivial ⟨HAA.out.setR _ _ _, HDD.out.chg hC HDR.out, rowAt_keepsH HRA.out (keeps_chg hC fun i _ e => by subst e; simp [below]; omega), HFA.out.chg hC (fun i e => by subst e; simp [below]; omega)⟩
   case sb8 =>
    obtain ⟨v0, v1, rfl⟩ : ∃ v0 v1, vs = [v0, v1] := by match vs, hm 2 (by kernel_rfl) with | [v0, v1], _ => exact ⟨_, _, rfl⟩
    have y0 := hd 5 (by decide) (by kernel_rfl); replace y0 : x 22 = .slice a3 nI c3 := y0; have HF := Z_ hF; clear hd hm hb hF; go_simp; exact hK'.out _ _ _ (by simp only [y0]; rfl) trivial ⟨rfl, HF.out⟩
   case sb9 =>
    obtain ⟨v0, v1, v2, rfl⟩ : ∃ v0 v1 v2, vs = [v0, v1, v2] := by match vs, hm 3 (by kernel_rfl) with | [v0, v1, v2], _ => exact ⟨_, _, _, rfl⟩
    have y0 := hd 6 (by decide) (by kernel_rfl); replace y0 : x 23 = .agg #[.int .i64 0, .int .i64 0] := y0; obtain ⟨rfl, hAA, hDD, hRA, hFA⟩ := hF; have hq := hAA.rz.cell; have hf := hAA.rz.frozen; have hl := hAA.rz.lt; have HDR := Z_ (show D ≠ F from fun e => by subst e; unfold Blk at hDD; have := hAA.rz; unfold Blk at this; rw [hDD] at this; cases this); have HAA := Z_ hAA; have HFA := Z_ hFA; have HRA := Z_ hRA; have HDD := Z_ hDD; clear hd hm hb hAA hFA hRA hDD; go_simp; have hC := chg_set (chg_set (S := F) (Chg.refl _ u) 0 (.int .i64 0)) 1 (.int .i64 0); exact hK'.out _ _ undef (by simp only [y0]; rfl) trivial ⟨rfl, HAA.out.setF, HDD.out.chg hC HDR.out, rowAt_keepsH HRA.out (keeps_chg hC fun i _ e => by subst e; simp [below]), HFA.out.chg hC (fun i e => by subst e; simp [below])⟩
  case finb =>
   intro x9 vs w9 hl hF hk; obtain ⟨v0, v1, v2, v3, rfl⟩ : ∃ v0 v1 v2 v3, vs = [v0, v1, v2, v3] := by match vs, hl with | [v0, v1, v2, v3], _ => exact ⟨_, _, _, _, rfl⟩
   have y3 := hk 8 (by decide) 3 (by kernel_rfl); replace y3 : x9 3 = v2 := y3; obtain ⟨rfl, hAA, hDD, hRA, hFA⟩ := hF; have hfo : ∃ p q r, v0 = .agg #[p, q, r] := by obtain ⟨a_, m_, c_, d_, e_, -⟩ := id hFA; exact ⟨_, _, _, e_⟩
   obtain ⟨p9, q9, r9, rfl⟩ := hfo; have HP9 := Z_ hAA; have HFA := Z_ hFA; have HRA := Z_ hRA; clear hk hl hAA hFA hRA hDD; go_wp2_with fail
   refine bodyPost_ret (results_c1c rfl _ _ rfl HP9.out.rf Tryz.underlying37 rfl (by kernel_rfl) rfl HP9.out.rz Tryz.underlying27 rfl (by kernel_rfl) (v := .slice a3 nI c3) (by simp)) rfl ?_
   rw [HQ3.out]; exact ⟨HP9.out.ext, _, _, rfl, HFA.out.weak (fun i hi => by have := HRW.out; simp [below] at hi ⊢; omega), rowAt_keepsH HRA.out (keeps_bare _ _)⟩
 ·have hcn : (c != 0) = true := by simpa using hc0
  have HQ3 := Z_ (HQN.out hc0); have hce : (c == 0) = false := by simpa using hc0
  clear HGD HQD HQN HA0; go_upto_region 3 with (fail)
  clear hv; refine wp_region_weave [2, 4] (fun i v _ => v = ([.agg #[.string ⟨#[]⟩, .slice none 0 0, .slice none 0 0], .agg #[.int .i64 c, .int .i64 a], undef, .slice none 0 0, undef] : List Value).getD i undef) (fun vs u => ∃ z0 z1 : Int, (vs.length = 2 → z0 = c ∧ z1 = a) ∧ OQ w u R F V #[.string ⟨#[]⟩, .slice none 0 0, .slice none 0 0] z0 z1 c a) (fun _ _ => True) (frame := ?fraa) (fun x => ?hfaa) synw.mixed (by kernel_rfl) (by kernel_rfl) (fun _ _ _ _ h _ => h) ?h0a ?sta ?fina
  case hfaa =>
   simp only [chain.frameOf, chain.fill, chain.setOpt, chain.dstOf, List.size_toArray, List.length_cons, List.length_nil, List.getElem?_toArray, List.getElem?_cons_succ, List.getElem?_cons_zero, List.setIfInBounds_toArray, List.set_cons_succ, List.set_cons_zero]; exact rfl
  case h0a => exact ⟨0, 0, (fun h => (by cases h)), HO.out.extend (Chg.refl _ _).drew⟩
  case sta =>
   refine AllFrom.cons (fun x vs u hF hm hb hd K' hK' => ?sa0) (AllFrom.cons (fun x vs u hF hm hb hd K' hK' => ?sa1) (AllFrom.cons (fun x vs u hF hm hb hd K' hK' => ?sa2) (AllFrom.cons (fun x vs u hF hm hb hd K' hK' => ?sa3) (AllFrom.cons (fun x vs u hF hm hb hd K' hK' => ?sa4) (AllFrom.nil)))))
   case sa0 =>
    have HF := Z_ hF; clear hd hm hb hF; go_simp; exact hK'.out _ _ _ (rfl) trivial ⟨rfl, HF.out⟩
   case sa1 =>
    obtain ⟨_, _, _, hAA⟩ := id hF; have hq := hAA.vb.cell; clear hAA; have HF := Z_ hF; clear hd hm hb hF; go_simp; exact hK'.out _ _ _ (rfl) trivial ⟨rfl, HF.out⟩
   case sa2 =>
    obtain rfl := List.eq_nil_of_length_eq_zero (hm 0 (by kernel_rfl)); have y0 := hd 0 (by decide) (by kernel_rfl); replace y0 : x 15 = .agg #[.string ⟨#[]⟩, .slice none 0 0, .slice none 0 0] := y0; obtain ⟨z0, z1, hz, hAA⟩ := hF; have hq := hAA.rf.cell; have hf := hAA.rf.frozen; have hl := hAA.rf.lt; have HF := Z_ hAA; clear hd hm hb hAA hz; go_simp; exact hK'.out _ _ undef (by simp only [y0]; rfl) trivial ⟨z0, z1, (fun h => (by cases h)), HF.out.setR _ _ _⟩
   case sa3 =>
    have HF := Z_ hF; clear hd hm hb hF; go_simp; exact hK'.out _ _ _ (rfl) trivial ⟨rfl, HF.out⟩
   case sa4 =>
    obtain ⟨v0, rfl⟩ : ∃ v0, vs = [v0] := by match vs, hm 1 (by kernel_rfl) with | [v0], _ => exact ⟨_, rfl⟩
    have y0 := hd 1 (by decide) (by kernel_rfl); replace y0 : x 16 = .agg #[.int .i64 c, .int .i64 a] := y0; obtain ⟨z0, z1, hz, hAA⟩ := hF; have hq := hAA.rz.cell; have hf := hAA.rz.frozen; have hl := hAA.rz.lt; have HF := Z_ hAA; clear hd hm hb hAA hz; go_simp; exact hK'.out _ _ undef (by simp only [y0]; rfl) trivial ⟨_, _, fun _ => ⟨rfl, rfl⟩, HF.out.setF⟩
  case fina =>
   intro x9 vs w9 hl hF hk; obtain ⟨v0, v1, rfl⟩ : ∃ v0 v1, vs = [v0, v1] := by match vs, hl with | [v0, v1], _ => exact ⟨_, _, rfl⟩
   obtain ⟨z0, z1, hz, hAA⟩ := hF; obtain ⟨hz0, hz1⟩ := hz rfl; rw [hz0, hz1] at hAA; have y3 := hk 3 (by decide); replace y3 : x9 3 = .slice none 0 0 := y3; have HP9 := Z_ hAA; clear hk hl hAA; go_wp2_with fail
   refine bodyPost_ret (results_c1c rfl _ _ rfl HP9.out.rf Tryz.underlying37 rfl (by kernel_rfl) rfl HP9.out.rz Tryz.underlying27 rfl (by kernel_rfl) (v := .slice none 0 0) (by simp [y3])) rfl ?_
   rw [HQ3.out]; exact ⟨HP9.out.ext, _, _, rfl, noFace_x _ _, noRow_at _⟩
end ofq
end Go.Proofs.YtpcihajmcejliacGreatDoor
namespace Go.Proofs.YtpcihajmcejliacGreatDoor
open Go.RowKit
namespace synr
open synw
set_option maxRecDepth 100000 in
set_option maxHeartbeats 4000000 in
theorem same_any : ∀ (x : Nd) (v1 v2 : Value) (w : World) (H1 H2 : Nat → Bool), NdAt (hide H1 w) x v1 → NdAt (hide H2 w) x v2 →
  Calls Tryz.prog 21 #[v1, v2] w fun e w' => e = .returned (.bool true) ∧ Ext w w' := by
 refine nd_ind fun k t n l ih v1 v2 w H1 H2 hx hy => ?_
 rw [ndAt_mk] at hx hy; obtain ⟨a, cc, rfl, hx1, hx2, hx3, hx4⟩ := hx; obtain ⟨a', cc', rfl, hy1, hy2, hy3, hy4⟩ := hy; obtain ⟨N, hN⟩ : ∃ N, l.length = N := ⟨_, rfl⟩; have hNm : N ≤ 9223372036854775807 := by unfold maxLen at hx2; omega
 have HN := Z_ hN; rw [hN]; have HIH := Z_ ih; have HI := Z_ (fun (u : World) (hE : Ext w u) => hx4.keeps (keeps_chg hE fun i _ e => e.elim) fun b o y => ndIn_keeps (keeps_chg hE fun i _ e => e.elim) b o y); have HJ := Z_ (fun (u : World) (hE : Ext w u) => hy4.keeps (keeps_chg hE fun i _ e => e.elim) fun b o y => ndIn_keeps (keeps_chg hE fun i _ e => e.elim) b o y); have hE1 := ((Chg.refl (fun _ => False) w).alloc (.cells #[.int .i64 k, .string t, .int .i64 n, .slice a N cc] 24)).alloc (.cells #[.int .i64 k, .string t, .int .i64 n, .slice a' N cc'] 24); have HK := Z_ ((Blk.made w #[.int .i64 k, .string t, .int .i64 n, .slice a N cc] 24).alloc (.cells #[.int .i64 k, .string t, .int .i64 n, .slice a' N cc'] 24)); have HL := Z_ (Blk.made2 w (.cells #[.int .i64 k, .string t, .int .i64 n, .slice a N cc] 24) #[.int .i64 k, .string t, .int .i64 n, .slice a' N cc'] 24)
 have HE1 := Z_ hE1; obtain ⟨P, hP⟩ : ∃ P, w.heap.size = P := ⟨_, rfl⟩; rw [hP] at HK HL; have hPP : P ≠ P + 1 := by omega
 have ht : (t.toList == t.toList) = true := by simp
 clear hx4 hy4 hN ih hE1; go_enter Tryz.func21, Tryz.ntmps21
 go_upto_region 1 with (fail)
 generalize (w.alloc (.cells #[.int .i64 k, .string t, .int .i64 n, .slice a N cc] 24)).alloc (.cells #[.int .i64 k, .string t, .int .i64 n, .slice a' N cc'] 24) = w1 at *; have hk := HK.out.cell; have hl := HL.out.cell; go_wp2_with fail
 clear hk hl; go_loopw [5] (fun i wr => ∃ q : Nat, q ≤ N ∧ i = .int .i64 q ∧ Hid (Ext w wr) ∧ Hid (Blk wr P #[.int .i64 k, .string t, .int .i64 n, .slice a N cc] 24) ∧ Hid (Blk wr (P + 1) #[.int .i64 k, .string t, .int .i64 n, .slice a' N cc'] 24)) (fun i _ => N - (intOf i).toNat)
 case atStart => exact ⟨0, Nat.zero_le _, rfl, HE1, HK, HL⟩
 clear HE1 HK HL
 case round =>
  obtain ⟨q, hq, rfl, HE, HK, HL⟩ := hrel; have hk := HK.out.cell; have hl := HL.out.cell; by_cases hlt : q < N
  ·have hql : q < l.length := by rw [HN.out]; exact hlt
   have hqi : (q : Int) < (N : Int) := by omega
   have hqd : decide ((q : Int) < (N : Int)) = true := by simpa using hqi
   obtain ⟨b, o, rfl, hb, u, hu, hus, hcl⟩ := HI.out wr HE.out q hql; obtain ⟨b', o', rfl, hb', u', hu', hus', hcl'⟩ := HJ.out wr HE.out q hql; rw [hide_size] at hb hb'; obtain ⟨k1, t1, n1, a1, l1, c1, rfl⟩ := nd_form hu; obtain ⟨k2, t2, n2, a2, l2, c2, rfl⟩ := nd_form hu'; have p0 : wr.cell? ⟨b, o + q * 4, none⟩ = some (.int .i64 k1) := (keeps_bare H1 wr).2 _ _ ((hcl 0 (by decide)).trans rfl); have p1 : wr.cell? ⟨b, o + q * 4 + 1, none⟩ = some (.string t1) := (keeps_bare H1 wr).2 _ _ ((hcl 1 (by decide)).trans rfl); have p2 : wr.cell? ⟨b, o + q * 4 + 2, none⟩ = some (.int .i64 n1) := (keeps_bare H1 wr).2 _ _ ((hcl 2 (by decide)).trans rfl); have p3 : wr.cell? ⟨b, o + q * 4 + 3, none⟩ = some (.slice a1 l1 c1) := (keeps_bare H1 wr).2 _ _ ((hcl 3 (by decide)).trans rfl); have r0 : wr.cell? ⟨b', o' + q * 4, none⟩ = some (.int .i64 k2) := (keeps_bare H2 wr).2 _ _ ((hcl' 0 (by decide)).trans rfl)
   have r1 : wr.cell? ⟨b', o' + q * 4 + 1, none⟩ = some (.string t2) := (keeps_bare H2 wr).2 _ _ ((hcl' 1 (by decide)).trans rfl); have r2 : wr.cell? ⟨b', o' + q * 4 + 2, none⟩ = some (.int .i64 n2) := (keeps_bare H2 wr).2 _ _ ((hcl' 2 (by decide)).trans rfl); have r3 : wr.cell? ⟨b', o' + q * 4 + 3, none⟩ = some (.slice a2 l2 c2) := (keeps_bare H2 wr).2 _ _ ((hcl' 3 (by decide)).trans rfl); have HC := Z_ (fun (w' : World) (hE : Ext wr w') => HIH.out l[q] (List.getElem_mem hql) _ _ w' H1 H2 (ndAt_keeps (keeps_chg hE fun _ _ h => h.elim) _ _ hu) (ndAt_keeps (keeps_chg hE fun _ _ h => h.elim) _ _ hu')); have k3 : wr.cell? ⟨P, 3, none⟩ = some (.slice (some ⟨b, o, none⟩) N cc) := (hk 3).trans rfl; have l3 : wr.cell? ⟨P + 1, 3, none⟩ = some (.slice (some ⟨b', o', none⟩) N cc') := (hl 3).trans rfl; have hPl := HK.out.lt; have hPl2 := HL.out.lt; have HKE := Z_ (fun (u : World) (hE : Ext wr u) => (⟨hE, (hE.cell (p := ⟨P, 3, none⟩) hPl id).trans k3, (hE.cell (p := ⟨P + 1, 3, none⟩) hPl2 id).trans l3, (hE.cell (p := ⟨b, o + q * 4, none⟩) hb id).trans p0, (hE.cell (p := ⟨b, o + q * 4 + 1, none⟩) hb id).trans p1, (hE.cell (p := ⟨b, o + q * 4 + 2, none⟩) hb id).trans p2, (hE.cell (p := ⟨b, o + q * 4 + 3, none⟩) hb id).trans p3, (hE.cell (p := ⟨b', o' + q * 4, none⟩) hb' id).trans r0, (hE.cell (p := ⟨b', o' + q * 4 + 1, none⟩) hb' id).trans r1, (hE.cell (p := ⟨b', o' + q * 4 + 2, none⟩) hb' id).trans r2, (hE.cell (p := ⟨b', o' + q * 4 + 3, none⟩) hb' id).trans r3⟩ : Ext wr u ∧ u.cell? ⟨P, 3, none⟩ = some (.slice (some ⟨b, o, none⟩) N cc) ∧ u.cell? ⟨P + 1, 3, none⟩ = some (.slice (some ⟨b', o', none⟩) N cc') ∧ u.cell? ⟨b, o + q * 4, none⟩ = some (.int .i64 k1) ∧ u.cell? ⟨b, o + q * 4 + 1, none⟩ = some (.string t1) ∧ u.cell? ⟨b, o + q * 4 + 2, none⟩ = some (.int .i64 n1) ∧ u.cell? ⟨b, o + q * 4 + 3, none⟩ = some (.slice a1 l1 c1) ∧ u.cell? ⟨b', o' + q * 4, none⟩ = some (.int .i64 k2) ∧ u.cell? ⟨b', o' + q * 4 + 1, none⟩ = some (.string t2) ∧ u.cell? ⟨b', o' + q * 4 + 2, none⟩ = some (.int .i64 n2) ∧ u.cell? ⟨b', o' + q * 4 + 3, none⟩ = some (.slice a2 l2 c2)))
   clear hu hu' hcl hcl' hus hus'; go_wp2_with fail
   go_region_held3 (fun u => Ext wr u ∧ u.cell? ⟨P, 3, none⟩ = some (.slice (some ⟨b, o, none⟩) N cc) ∧ u.cell? ⟨P + 1, 3, none⟩ = some (.slice (some ⟨b', o', none⟩) N cc') ∧ u.cell? ⟨b, o + q * 4, none⟩ = some (.int .i64 k1) ∧ u.cell? ⟨b, o + q * 4 + 1, none⟩ = some (.string t1) ∧ u.cell? ⟨b, o + q * 4 + 2, none⟩ = some (.int .i64 n1) ∧ u.cell? ⟨b, o + q * 4 + 3, none⟩ = some (.slice a1 l1 c1) ∧ u.cell? ⟨b', o' + q * 4, none⟩ = some (.int .i64 k2) ∧ u.cell? ⟨b', o' + q * 4 + 1, none⟩ = some (.string t2) ∧ u.cell? ⟨b', o' + q * 4 + 2, none⟩ = some (.int .i64 n2) ∧ u.cell? ⟨b', o' + q * 4 + 3, none⟩ = some (.slice a2 l2 c2))
    (first | exact HKE.out _ (Chg.refl _ _) | exact HKE.out _ ((Chg.refl _ _).drew) | exact HKE.out _ (by assumption))
    ((go_at_call 21; refine (HC.out _ (by first | exact Chg.refl _ _ | exact (Chg.refl _ _).drew)).mono ?_; rintro e w' ⟨rfl, hE2⟩; have hE3 : Ext wr w' := (Chg.refl _ wr).drew.ext hE2))
   rename_i hH
   clear hH; have HE9 := Z_ (HE.out.ext hE3); have HK9 := Z_ (HK.out.ext hE3); have HL9 := Z_ (HL.out.ext hE3); clear hE2 hE3 HE HK HL hk hl HKE HC p0 p1 p2 p3 r0 r1 r2 r3 k3 l3; go_wp2_with fail
   go_roundw
   case rel => exact ⟨q + 1, by omega, by go_num, HE9, HK9, HL9⟩
   case measure => simp [intOf]; omega
  ·obtain rfl : q = N := by omega
   have hqd : decide ((q : Int) < (q : Int)) = false := by simp
   go_wp2_with fail
   go_ret
   exact ⟨rfl, HE.out⟩
end synr
end Go.Proofs.YtpcihajmcejliacGreatDoor
