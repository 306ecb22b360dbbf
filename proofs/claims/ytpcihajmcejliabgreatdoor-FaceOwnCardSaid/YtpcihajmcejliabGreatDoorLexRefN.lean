/- The walk of the program's Open: what others know of declarations. Faces, in plain Lean; and how one lies in memory. The walk of a text's place in a list. The walk of the reference's Look: what is wrong first of a module. The walks of the reference's Face and Imports. The walk of the reference's Imports. The reference's Same. The walk of the reference's sign. The walk of the reference's numeral. -/
import Derived.Maps.OwnSet
import Derived.Maps.OwnOps
import Derived.Deep.CutBlock
import Derived.Deep.RegionHeld3
import Derived.Test.YtpcihajmcejliabGreatDoorOfE
import Derived.Test.YtpcihajmcejliabGreatDoorLexBlanks
import Derived.Test.YtpcihajmcejliabGreatDoorSynP
import Derived.Test.YtpcihajmcejliabGreatDoorSyn3
import Derived.Test.YtpcihajmcejliabGreatDoorOfS
import Derived.Test.YtpcihajmcejliabGreatDoorOfP
import Derived.Test.YtpcihajmcejliabGreatDoorLexAgainMath
namespace Go.Proofs.YtpcihajmcejliabGreatDoor
open Go.RowKit
namespace ofn
open synw ofp
def OProc0 (w0 : World) (x : FProc) (v : Value) (_ : World) : Prop := OProc x v w0
theorem p0_any {w0 : World} (x : FProc) (u : Value) (w w' : World) (h : OProc0 w0 x u w) : OProc0 w0 x u w' := h
theorem p0_keeps {w0 : World} (x : FProc) (u : Value) (w w' : World) (_ : Keeps w w') (h : OProc0 w0 x u w) : OProc0 w0 x u w' := h
def ProcIn0 (w0 w : World) (b o : Nat) (x : FProc) : Prop := ∃ u, OProc x u w0 ∧ u.cells.size = 6 ∧ ∀ i, i < 6 → w.cell? ⟨b, o + i, none⟩ = u.cells[i]?
theorem p0_lies {w0 : World} (w : World) (b o : Nat) (x : FProc) (u : Value) (h : OProc0 w0 x u w) (hs : u.cells.size = 6) (hc : ∀ i, i < 6 → w.cell? ⟨b, o + i, none⟩ = u.cells[i]?) : ProcIn0 w0 w b o x := ⟨u, h, hs, hc⟩
structure OB (wq w u : World) (D Fb B : Nat) (dc : Array Value) (m : ByteArray) (rvN rpN rv rp : Value) (vs : List FVar) (ps : List FProc) : Prop where
 ext : Ext w u
 d : Blk u D dc 175
 res : Blk u w.heap.size #[.string ⟨#[]⟩, .slice none 0 0, .slice none 0 0] 52
 fb : Blk u Fb #[.string m, rvN, rpN] 52
 gv : Grow 4 82 OVar B u rv vs
 gp : Grow 6 179 (OProc0 wq) B u rp ps
 apart : ∀ i, rv.ownBlock = some i → rp.ownBlock ≠ some i
 hD : D < w.heap.size
 hF : w.heap.size < Fb
 hB : Fb < B
 hu : B ≤ u.heap.size
theorem OB.extend {wq w u u' : World} {D Fb B : Nat} {dc : Array Value} {m : ByteArray} {rvN rpN rv rp : Value} {vs : List FVar} {ps : List FProc} (h : OB wq w u D Fb B dc m rvN rpN rv rp vs ps) (hE : Ext u u') : OB wq w u' D Fb B dc m rvN rpN rv rp vs ps :=
 ⟨h.ext.ext hE, h.d.ext hE, h.res.ext hE, h.fb.ext hE, h.gv.chg var_keeps hE (fun _ e => e.elim), h.gp.chg p0_keeps hE (fun _ e => e.elim), h.apart, h.hD, h.hF, h.hB, Nat.le_trans h.hu hE.size⟩
theorem OB.pushV {wq w u u' : World} {D Fb B : Nat} {dc : Array Value} {m : ByteArray} {rvN rpN rv rp r : Value} {vs vs2 : List FVar} {ps : List FProc} (h : OB wq w u D Fb B dc m rvN rpN rv rp vs ps) (hG : Grow 4 82 OVar B u' r vs2) (hC : Chg (fun i => rv.ownBlock = some i) u u') (ha : ∀ i, r.ownBlock = some i → rv.ownBlock = some i ∨ u.heap.size ≤ i) : OB wq w u' D Fb B dc m rvN rpN r rp vs2 ps := by
 have h1 := h.hD; have h2 := h.hF; have h3 := h.hB
 have ho := grow_own h.gv; refine ⟨h.ext.trans hC (fun i hi e => by have := ho i e; omega), h.d.chg hC (fun e => by have := ho _ e; omega), h.res.chg hC (fun e => by have := ho _ e; omega), h.fb.chg hC (fun e => by have := ho _ e; omega), hG, grow_away h.gp p0_any hC (fun i hi hs => h.apart i hs hi), fun i hi e => ?_, h1, h2, h3, Nat.le_trans h.hu hC.size⟩
 rcases ha i hi with h4 | h4
 ·exact h.apart i h4 e
 ·have := grow_own h.gp i e; omega
theorem OB.pushP {wq w u u' : World} {D Fb B : Nat} {dc : Array Value} {m : ByteArray} {rvN rpN rv rp r : Value} {vs : List FVar} {ps ps2 : List FProc} (h : OB wq w u D Fb B dc m rvN rpN rv rp vs ps) (hG : Grow 6 179 (OProc0 wq) B u' r ps2) (hC : Chg (fun i => rp.ownBlock = some i) u u') (ha : ∀ i, r.ownBlock = some i → rp.ownBlock = some i ∨ u.heap.size ≤ i) : OB wq w u' D Fb B dc m rvN rpN rv r vs ps2 := by
 have h1 := h.hD; have h2 := h.hF; have h3 := h.hB
 have ho := grow_own h.gp; refine ⟨h.ext.trans hC (fun i hi e => by have := ho i e; omega), h.d.chg hC (fun e => by have := ho _ e; omega), h.res.chg hC (fun e => by have := ho _ e; omega), h.fb.chg hC (fun e => by have := ho _ e; omega), grow_away h.gv var_any hC (fun i hi hs => h.apart i hi hs), hG, fun i hi e => ?_, h1, h2, h3, Nat.le_trans h.hu hC.size⟩
 rcases ha i e with h4 | h4
 ·exact h.apart i hi h4
 ·have := grow_own h.gv i hi; omega
theorem OB.putV {wq w u : World} {D Fb B : Nat} {dc : Array Value} {m : ByteArray} {rvN rpN rv rp : Value} {vs : List FVar} {ps : List FProc} (h : OB wq w u D Fb B dc m rvN rpN rv rp vs ps) : OB wq w (u.setCell ⟨Fb, 1, none⟩ rv) D Fb B dc m rv rpN rv rp vs ps := by
 have h1 := h.hD; have h2 := h.hF; have h3 := h.hB
 have hC := chg_set (S := Fb) (Chg.refl _ u) 1 rv; exact ⟨h.ext.trans hC (fun i hi e => by omega), h.d.chg hC (by omega), h.res.chg hC (by omega), by have := h.fb.set 1 rv; exact this, h.gv.chg var_keeps hC (fun i e => by omega), h.gp.chg p0_keeps hC (fun i e => by omega), h.apart, h1, h2, h3, Nat.le_trans h.hu hC.size⟩
theorem OB.putP {wq w u : World} {D Fb B : Nat} {dc : Array Value} {m : ByteArray} {rvN rpN rv rp : Value} {vs : List FVar} {ps : List FProc} (h : OB wq w u D Fb B dc m rvN rpN rv rp vs ps) : OB wq w (u.setCell ⟨Fb, 2, none⟩ rp) D Fb B dc m rvN rp rv rp vs ps := by
 have h1 := h.hD; have h2 := h.hF; have h3 := h.hB
 have hC := chg_set (S := Fb) (Chg.refl _ u) 2 rp; exact ⟨h.ext.trans hC (fun i hi e => by omega), h.d.chg hC (by omega), h.res.chg hC (by omega), by have := h.fb.set 2 rp; exact this, h.gv.chg var_keeps hC (fun i e => by omega), h.gp.chg p0_keeps hC (fun i e => by omega), h.apart, h1, h2, h3, Nat.le_trans h.hu hC.size⟩
theorem fresh_own {g c n : Nat} {row : Value} {u : World} (hat : row.ownBlock = some g ∨ g = u.heap.size + 1) : ∀ i, (Value.slice (some ⟨g, 0, none⟩) n c).ownBlock = some i → row.ownBlock = some i ∨ u.heap.size ≤ i := fun i e => by
 have : g = i := by simpa [Value.ownBlock] using e
 subst this; rcases hat with h | h
 ·exact .inl h
 ·exact .inr (by omega)
def FaceX (M : Nat → Bool) (w : World) (x : FFace) (v : Value) : Prop := ∃ a m c d, v = .agg #[.string x.modn, .slice a x.vars.length m, .slice c x.procs.length d] ∧ AllIn 4 VarIn (hide M w) a x.vars ∧
 AllIn 6 ProcIn (hide (fun i => M i || ownB (.slice a x.vars.length m) i) w) c x.procs ∧ x.modn.size ≤ maxLen ∧ x.vars.length ≤ m ∧ m ≤ maxLen ∧ x.procs.length ≤ d ∧ d ≤ maxLen ∧ (a = none ∨ ∃ g cs, a = some ⟨g, 0, none⟩ ∧ M g = false ∧ Blk w g cs 82)
theorem FaceX.at_ {M : Nat → Bool} {w : World} {x : FFace} {v : Value} (h : FaceX M w x v) : FaceAt (hide M w) x v := by
 obtain ⟨a, m, c, d, e, h1, h2, h3, h4, h5, h6, h7, -⟩ := h
 have hK : Keeps (hide (fun i => M i || ownB (.slice a x.vars.length m) i) w) (hide M w) := keeps_hide (Nat.le_refl _) fun i hi hm => by
  simp only [Bool.or_eq_false_iff] at hm; exact ⟨hm.1, rfl⟩
 exact ⟨a, m, c, d, e, h1, h2.keeps hK fun _ _ _ => ProcIn.keeps hK, h3, h4, h5, h6, h7⟩
theorem FaceX.chg {M : Nat → Bool} {S : Nat → Prop} {w w' : World} {x : FFace} {v : Value} (h : FaceX M w x v) (hC : Chg S w w') (hS : ∀ i, S i → M i = true) : FaceX M w' x v := by
 obtain ⟨a, m, c, d, e, h1, h2, h3, h4, h5, h6, h7, h8⟩ := h; have k1 := keeps_chg (M := M) hC fun i _ e => hS i e
 have k2 := keeps_chg (M := fun i => M i || ownB (.slice a x.vars.length m) i) hC fun i _ e => by simp [hS i e]
 refine ⟨a, m, c, d, e, h1.keeps k1 fun _ _ _ => VarIn.keeps k1, h2.keeps k2 fun _ _ _ => ProcIn.keeps k2, h3, h4, h5, h6, h7, ?_⟩
 rcases h8 with h8 | ⟨g, cs, e1, e2, e3⟩
 ·exact .inl h8
 ·exact .inr ⟨g, cs, e1, e2, e3.chg hC fun hs => by rw [hS g hs] at e2; cases e2⟩
theorem FaceX.weak {M M' : Nat → Bool} {w : World} {x : FFace} {v : Value} (h : FaceX M w x v) (hM : ∀ i, M i = false → M' i = false) : FaceX M' w x v := by
 obtain ⟨a, m, c, d, e, h1, h2, h3, h4, h5, h6, h7, h8⟩ := h; have k1 : Keeps (hide M w) (hide M' w) := keeps_hide (Nat.le_refl _) fun i _ hm => ⟨hM i hm, rfl⟩
 have k2 : Keeps (hide (fun i => M i || ownB (.slice a x.vars.length m) i) w) (hide (fun i => M' i || ownB (.slice a x.vars.length m) i) w) := keeps_hide (Nat.le_refl _) fun i _ hm => by
  simp only [Bool.or_eq_false_iff] at hm ⊢; exact ⟨⟨hM i hm.1, hm.2⟩, trivial⟩
 refine ⟨a, m, c, d, e, h1.keeps k1 fun _ _ _ => VarIn.keeps k1, h2.keeps k2 fun _ _ _ => ProcIn.keeps k2, h3, h4, h5, h6, h7, ?_⟩
 rcases h8 with h8 | ⟨g, cs, e1, e2, e3⟩
 ·exact .inl h8
 ·exact .inr ⟨g, cs, e1, hM g e2, e3⟩
theorem row_blk {α : Type} {k : Nat} {E : TypeId} {V : α → Value → World → Prop} {B : Nat} {w : World} {a : Option Addr} {n m : Nat} {l : List α} (h : Grow k E V B w (.slice a n m) l) : a = none ∨ ∃ g cs, a = some ⟨g, 0, none⟩ ∧ B ≤ g ∧ Blk w g cs E := by
 obtain ⟨us, h1, h2, h3⟩ := h.ex; rcases h2.2 with ⟨e, h0⟩ | ⟨g, cap, cur, e, hB, hg, -⟩
 ·injection e with e; exact .inl e
 ·injection e with e; exact .inr ⟨g, _, e, hB, hg⟩
theorem OB.face {M : Nat → Bool} {w u : World} {D Fb B : Nat} {dc : Array Value} {m : ByteArray} {rvN rpN rv rp : Value} {vs : List FVar} {ps : List FProc} (h : OB (hide M w) w u D Fb B dc m rvN rpN rv rp vs ps) (hM : ∀ i, M i = true → i < w.heap.size) (hm : m.size ≤ 10000) {u' : World} {S : Nat → Prop} (hC : Chg S u u') (hS : ∀ i, S i → i < B) (hE : Ext w u') : FaceX M u' ⟨m, vs, ps⟩ (.agg #[.string m, rv, rp]) := by
 have hF := h.hF; have hB := h.hB
 have hgv := h.gv.chg var_keeps hC hS; have hap : ∀ i, rv.ownBlock = some i → B ≤ i := fun i e => (grow_own h.gv i e).1
 have hgp := h.gp.chg p0_keeps hC hS; have hapt := h.apart; obtain ⟨a, n, rfl, h1, h2, h3⟩ := hgv.row var_keeps var_lies; have hblk := row_blk hgv; obtain ⟨us, g1, g2, g3⟩ := hgp.ex; obtain ⟨c, d, rfl, h4, h5, -⟩ := hgp.row p0_keeps p0_lies
 have hK : Keeps (hide (below B) u') (hide M u') := keeps_hide (Nat.le_refl _) fun i hi hb => ⟨by
  cases hq : M i with
  | false => rfl
  | true => have := hM i hq; simp [below] at hb; omega, rfl⟩
 refine ⟨a, n, c, d, rfl, h3.keeps hK fun _ _ _ => varIn_keeps hK, fun j hj => ?_, small _ hm, h1, h2, h4, h5, ?_⟩
 ·rcases g2.2 with ⟨e, h0⟩ | ⟨g, cap, cur, e, hBg, hg, hc1, hc2, hc3, hc4⟩
  ·exact absurd hj (by show ¬ j < ps.length; omega)
  ·injection e with e e2 e3
   subst e; have hj' : j < us.length := by rw [g1]; exact hj
   obtain ⟨q1, q2⟩ := g3 j hj hj'
   have hne : ownB (.slice a vs.length n) g = false := by
    unfold ownB; rw [decide_eq_false_iff_not]; intro e; exact hapt g e rfl
   have hMg : M g = false := by
    cases hq : M g with
    | false => rfl
    | true => have := hM g hq; omega
   have hall : ∀ u ∈ us, u.cells.size = 6 := fun u hu => by
    obtain ⟨q, hq, rfl⟩ := List.getElem_of_mem hu; exact (g3 q (by omega) hq).2
   have hu2 := proc_keeps _ _ _ _ (keeps_chg (M := M) hE fun _ _ e => e.elim) (show OProc _ _ _ from q1)
   have hKM : Keeps (hide M w) (hide (fun i => M i || ownB (.slice a vs.length n) i) u') := keeps_hide hE.size fun i hi hm => ⟨by
    rw [hm, Bool.false_or]; unfold ownB; rw [decide_eq_false_iff_not]; intro e; have := hap i e; omega, hE.block i hi id⟩
   have hu3 := proc_keeps _ _ _ _ hKM (show OProc _ _ _ from q1); refine ⟨g, 0, rfl, by rw [hide_size]; exact (Array.getElem?_eq_some_iff.1 hg).1, ?_⟩
   refine proc_lies _ _ _ _ us[j] hu3 q2 fun i hi => ?_
   rw [hide_cell _ _ _ (by simp [hMg, hne])]
   rw [← flat_at 6 us hall j hj' i hi, ← hc4, List.getElem?_take, if_pos (by
    have : (j + 1) * 6 ≤ ps.length * 6 := Nat.mul_le_mul_right _ hj; rw [Nat.succ_mul] at this; omega)]
   rw [cell_of_row u' g _ cur _ (0, 0) hg]; simp
 ·rcases hblk with e | ⟨g, cs, e, hBg, hb⟩
  ·exact .inl e
  ·refine .inr ⟨g, cs, e, ?_, hb⟩
   cases hq : M g with
   | false => rfl
   | true => have := hM g hq; omega
theorem filt_take {α : Type} (p : α → Bool) {l : List α} {q : Nat} (h : q < l.length) : (l.take (q + 1)).filter p = (l.take q).filter p ++ (if p l[q] = true then [l[q]] else []) := by
 rw [List.take_succ_eq_append_getElem h, List.filter_append]; congr 1
 cases hp : p l[q] <;> simp [hp]
theorem filt_len {α : Type} (p : α → Bool) (l : List α) (q : Nat) : ((l.take q).filter p).length ≤ q := Nat.le_trans (List.length_filter_le _ _) (List.length_take_le q l)
set_option maxRecDepth 100000 in
set_option maxHeartbeats 8000000 in
theorem open_any {M : Nat → Bool} {w : World} {D : Nat} {m : ByteArray} {d3 d4 d5 d6 d7 d8 : Value} {a1 a2 : Option Addr} {c1 c2 : Nat} {xv : List FVar} {xp : List FProc} (hd : Blk w D #[.string m, .slice a1 xv.length c1, .slice a2 xp.length c2, d3, d4, d5, d6, d7, d8] 175) (hv : AllIn 4 VarIn w a1 xv) (hp : AllIn 6 ProcIn (hide M w) a2 xp) (hM : ∀ i, M i = true → i < w.heap.size) (hm : m.size ≤ 10000) (hvz : ∀ x ∈ xv, x.name.size ≤ 10000) (hpz : ∀ x ∈ xp, x.name.size ≤ 10000) (hnv : xv.length ≤ 1000) (hnp : xp.length ≤ 1000) :
  Calls Tryz.prog 99 #[.pointer (some ⟨D, 0, none⟩)] w fun e w' => ∃ v', e = .returned v' ∧ FaceX M w' ⟨m, xv.filter fun v => v.pub, xp.filter fun p => p.pub⟩ v' ∧ Ext w w' := by
 obtain ⟨fv, hfv⟩ : ∃ l, (xv.filter fun v => v.pub) = l := ⟨_, rfl⟩; obtain ⟨fp, hfp⟩ : ∃ l, (xp.filter fun p => p.pub) = l := ⟨_, rfl⟩; rw [hfv, hfp]; have HFV := Z_ hfv; have HFP := Z_ hfp; clear hfv hfp; have HV := Z_ hv; have HPS := Z_ hp; have HM := Z_ hM; have HVZ := Z_ hvz; have HPZ := Z_ hpz; obtain ⟨n1, hn1⟩ : ∃ n, xv.length = n := ⟨_, rfl⟩; obtain ⟨n2, hn2⟩ : ∃ n, xp.length = n := ⟨_, rfl⟩; rw [hn1] at hd hnv; rw [hn2] at hd hnp; have H1 := Z_ hn1; have H2 := Z_ hn2; have hD := hd.lt; have HD := Z_ (hd.alloc (.cells #[.string ⟨#[]⟩, .slice none 0 0, .slice none 0 0] 52)); have HE1 := Z_ ((Chg.refl (fun _ => False) w).alloc (.cells #[.string ⟨#[]⟩, .slice none 0 0, .slice none 0 0] 52)); have HR := Z_ (Blk.made w #[.string ⟨#[]⟩, .slice none 0 0, .slice none 0 0] 52); obtain ⟨dc, hdc⟩ : ∃ dc : Array Value, #[.string m, .slice a1 n1 c1, .slice a2 n2 c2, d3, d4, d5, d6, d7, d8] = dc := ⟨_, rfl⟩
 have HDC := Z_ hdc; clear hv hp hM hn1 hn2 hd hvz hpz hdc; go_enter Tryz.func99, Tryz.ntmps99
 go_upto_region 1 with (fail)
 have hsw : w.heap.size < (w.alloc (.cells #[.string ⟨#[]⟩, .slice none 0 0, .slice none 0 0] 52)).heap.size := by simp
 generalize w.alloc (.cells #[.string ⟨#[]⟩, .slice none 0 0, .slice none 0 0] 52) = w1 at *; have hc := HD.out.cell; go_upto_region 2 with (fail)
 have hL0 : OB (hide M w) w (w1.alloc (.cells #[.string m, .slice none 0 0, .slice none 0 0] 52)) D w1.heap.size (w1.heap.size + 1) dc m (.slice none 0 0) (.slice none 0 0) (.slice none 0 0) (.slice none 0 0) [] [] :=
  ⟨HE1.out.alloc _, by rw [← HDC.out]; exact HD.out.alloc _, HR.out.alloc _, Blk.made _ _ _, Grow.nil _ _ _ _ _, Grow.nil _ _ _ _ _, fun i e => (by cases e), hD, hsw, by omega, by simp⟩
 have HL := Z_ hL0; obtain ⟨Fb, hFb⟩ : ∃ Fb, w1.heap.size = Fb := ⟨_, rfl⟩; rw [hFb] at HL
 try rw [hFb]
 have hc2 := (HD.out.alloc (.cells #[.string m, .slice none 0 0, .slice none 0 0] 52)).cell; clear hc hL0 HE1 HD HR hsw; generalize w1.alloc (.cells #[.string m, .slice none 0 0, .slice none 0 0] 52) = w2 at *; clear hFb; obtain ⟨B, hB⟩ : ∃ B, Fb + 1 = B := ⟨_, rfl⟩; rw [hB] at HL; clear hB; go_wp2_with fail
 clear hc2; go_loopw [20] (fun i wr => ∃ (q : Nat) (rv : Value), q ≤ n1 ∧ i = .int .i64 (q : Nat) ∧ Hid (OB (hide M w) w wr D Fb B dc m rv (.slice none 0 0) rv (.slice none 0 0) ((xv.take q).filter fun v => v.pub) [])) (fun i _ => n1 - (intOf i).toNat)
 case atStart => exact ⟨0, _, Nat.zero_le _, rfl, HL⟩
 clear HL
 case round =>
  obtain ⟨q, rv, hq, rfl, HL⟩ := hrel; by_cases hlt : q < n1
  ·have hqi : (q : Int) < (n1 : Int) := by omega
   have hqd : decide ((q : Int) < (n1 : Int)) = true := by simpa using hqi
   have hql : q < xv.length := by rw [H1.out]; exact hlt
   obtain ⟨b, o, rfl, hb, hin⟩ := HV.out q hql; have hbl := Nat.lt_of_lt_of_le hb HL.out.ext.size; obtain ⟨l0, l1, l2, l3, lz⟩ := VarIn.ext HL.out.ext hb hin; have HOV := Z_ (filt_take (fun v : FVar => v.pub) hql); have hlv := filt_len (fun v : FVar => v.pub) xv q; have hzz := HVZ.out xv[q] (List.getElem_mem hql); generalize xv[q] = y at *; obtain ⟨vn, vp, vl, vz⟩ := y; simp only at l0 l1 l2 l3 hzz; clear hin lz; generalize ((xv.take q).filter fun v => v.pub) = fs at *; have HL6 := Z_ (HL.out.extend ((Chg.refl (fun _ => False) wr).alloc (.cells #[.string vn, .bool vp, .int .i64 vl, .int .i64 vz] 82))); have HV6 := Z_ (Blk.made wr #[.string vn, .bool vp, .int .i64 vl, .int .i64 vz] 82); obtain ⟨Vb, hVb⟩ : ∃ Vb, wr.heap.size = Vb := ⟨_, rfl⟩; rw [hVb] at HV6; go_upto_region 5 with (fail)
   try rw [hVb]
   generalize wr.alloc (.cells #[.string vn, .bool vp, .int .i64 vl, .int .i64 vz] 82) = u6 at *; clear l0 l1 l2 l3 HL hVb; have hv := HV6.out.cell; cases vp with
   | false =>
    go_wp2_with fail
    go_roundw
    case rel => exact ⟨q + 1, _, by omega, by go_num, by rw [HOV.out, if_neg (by simp), List.append_nil]; exact HL6⟩
    case measure => simp [intOf]; omega
   | true =>
    obtain ⟨ra, rc, hrow, -, -⟩ := grow_slice HL6.out.gv; subst hrow; obtain ⟨us, hu1, ho, hu3⟩ := HL6.out.gv.ex; have HO := Z_ ho; have HU9 := Z_ (And.intro hu1 hu3); have hfc := HL6.out.fb.cell; have hff := HL6.out.fb.frozen; have hfl := HL6.out.fb.lt; have hub := HL6.out.hu; obtain ⟨i0_, hi_, hz0, hz1, hz2⟩ := info_split info_var; clear ho hu1 hu3; go_wp2_with (at_builtin; refine wpList_append_lies _ rfl _ _ 49 rfl B 82 i0_ (.agg #[.string ⟨#[]⟩, .bool false, .int .i64 0, .int .i64 0]) 4 40 Tryz.underlying49 hi_ hz0 hz1 hz2 rfl (by decide) (.slice ra fs.length rc) fs.length (us.flatMap fun u => u.cells.toList) rfl (HO.out.alloc _) ⟨u6.heap.size, 0, none⟩ 1 1 [.string vn, .bool true, .int .i64 vl, .int .i64 vz] rfl rfl (by intro j z_ hj; have e : (⟨u6.heap.size, 0, none⟩ : Addr).add j = ⟨u6.heap.size, j, none⟩ := (by unfold Addr.add; split <;> simp_all); rw [e, (Blk.made u6 _ _).cell]; simpa using hj) (by intro z_ hz_; simp only [List.mem_cons, List.not_mem_nil, or_false] at hz_; rcases hz_ with rfl | rfl | rfl | rfl <;> rfl) (by decide) (by unfold maxLen; omega) (by omega) (by simp; omega) (u6.heap.size + 1) (by simp) ?_; intro g c' w7 hown hgrow hat hlt1; have HPU := Z_ (pushedG var_keeps HU9.out.1 HU9.out.2 (x := ⟨vn, true, vl, vz⟩) (v := .agg #[.string vn, .bool true, .int .i64 vl, .int .i64 vz]) ⟨rfl, hzz⟩ rfl hown hgrow hat); have HL7 := Z_ (HL6.out.pushV HPU.out.1 HPU.out.2 (fresh_own hat)); have q1 := HL7.out.fb.cell; have q1f := HL7.out.fb.frozen; have q1l := HL7.out.fb.lt; clear hown hgrow hat hfc hff hfl hv)
    have HL8 := Z_ HL7.out.putV; clear q1 q1f q1l HPU; go_roundw
    case rel => exact ⟨q + 1, _, by omega, by go_num, by rw [HOV.out, if_pos (by simp)]; exact HL8⟩
    case measure => simp [intOf]; omega
  ·obtain rfl : q = n1 := by omega
   have hqd : decide ((q : Int) < (q : Int)) = false := by simp
   have hT : xv.take q = xv := List.take_of_length_le (by rw [H1.out]; exact Nat.le_refl _); rw [hT, HFV.out] at HL; have hc := HL.out.d.cell; rw [← HDC.out] at hc; obtain ⟨wo, rfl⟩ : ∃ wo, wo = wr := ⟨_, rfl⟩; go_wp2_with fail
   clear hc; go_loopw [39] (fun i wr => ∃ (q : Nat) (rv rp : Value), q ≤ n2 ∧ i = .int .i64 (q : Nat) ∧ Hid (OB (hide M w) w wr D Fb B dc m rv rp rv rp fv ((xp.take q).filter fun p => p.pub))) (fun i _ => n2 - (intOf i).toNat)
   case atStart => exact ⟨0, _, _, Nat.zero_le _, rfl, by show Hid (OB (hide M w) w _ D Fb B dc m _ _ _ _ _ []); exact HL⟩
   clear HL
   case round =>
    obtain ⟨q, rv, rp, hq, rfl, HL⟩ := hrel; by_cases hlt : q < n2
    ·have hqi : (q : Int) < (n2 : Int) := by omega
     have hqd : decide ((q : Int) < (n2 : Int)) = true := by simpa using hqi
     have hql : q < xp.length := by rw [H2.out]; exact hlt
     obtain ⟨b, o, rfl, hb, hin⟩ := HPS.out q hql; rw [hide_size] at hb; have hbl := Nat.lt_of_lt_of_le hb HL.out.ext.size; have hin0 := hin; replace hin := ProcIn.keeps (keeps_bare M w) hin; obtain ⟨l0, l1, ⟨pa0, pc0, l2, -⟩, l3, l4, l5, lz⟩ := ProcIn.ext HL.out.ext hb hin; obtain ⟨-, -, ⟨pa, pc, m2, m2i, m2c, m2d⟩, -⟩ := hin0; have hpe : pa0 = pa ∧ pc0 = pc := by have := (HL.out.ext.cell (p := ⟨b, o + q * 6 + 2, none⟩) hb id).symm.trans l2; rw [(keeps_bare M w).2 _ _ m2] at this; cases this; exact ⟨rfl, rfl⟩
     obtain ⟨rfl, rfl⟩ := hpe; have HOV := Z_ (filt_take (fun p : FProc => p.pub) hql); have hlv := filt_len (fun p : FProc => p.pub) xp q; have hzz := HPZ.out xp[q] (List.getElem_mem hql); generalize xp[q] = y at *; obtain ⟨vn, vp, pl, vw, vg, vi⟩ := y; simp only at l0 l1 l2 l3 l4 l5 hzz m2i m2c; have HX9 := Z_ (show OProc ⟨vn, vp, pl, vw, vg, vi⟩ (.agg #[.string vn, .bool vp, .slice pa0 pl.length pc0, .int .i64 vw, .bool vg, .int .i64 vi]) (hide M w) from ⟨pa0, pc0, rfl, m2i, m2c, m2d, hzz⟩); clear hin lz m2 m2i m2c m2d; generalize ((xp.take q).filter fun p => p.pub) = fs at *; have HL6 := Z_ (HL.out.extend ((Chg.refl (fun _ => False) wr).alloc (.cells #[.string vn, .bool vp, .slice pa0 pl.length pc0, .int .i64 vw, .bool vg, .int .i64 vi] 179))); have HV6 := Z_ (Blk.made wr #[.string vn, .bool vp, .slice pa0 pl.length pc0, .int .i64 vw, .bool vg, .int .i64 vi] 179)
     obtain ⟨Vb, hVb⟩ : ∃ Vb, wr.heap.size = Vb := ⟨_, rfl⟩; rw [hVb] at HV6; go_upto_region 11 with (fail)
     try rw [hVb]
     generalize wr.alloc (.cells #[.string vn, .bool vp, .slice pa0 pl.length pc0, .int .i64 vw, .bool vg, .int .i64 vi] 179) = u6 at *; clear l0 l1 l2 l3 l4 l5 HL hVb; have hv := HV6.out.cell; cases vp with
     | false =>
      go_wp2_with fail
      go_roundw
      case rel => exact ⟨q + 1, _, _, by omega, by go_num, by rw [HOV.out, if_neg (by simp), List.append_nil]; exact HL6⟩
      case measure => simp [intOf]; omega
     | true =>
      obtain ⟨ra, rc, hrow, -, -⟩ := grow_slice HL6.out.gp; subst hrow; obtain ⟨us, hu1, ho, hu3⟩ := HL6.out.gp.ex; have HO := Z_ ho; have HU9 := Z_ (And.intro hu1 hu3); have hfc := HL6.out.fb.cell; have hff := HL6.out.fb.frozen; have hfl := HL6.out.fb.lt; have hub := HL6.out.hu; obtain ⟨i0_, hi_, hz0, hz1, hz2⟩ := info_split info_proc; clear ho hu1 hu3; go_wp2_with (at_builtin; refine wpList_append_lies _ rfl _ _ 50 rfl B 179 i0_ (.agg #[.string ⟨#[]⟩, .bool false, .slice none 0 0, .int .i64 0, .bool false, .int .i64 0]) 6 72 Tryz.underlying50 hi_ hz0 hz1 hz2 rfl (by decide) (.slice ra fs.length rc) fs.length (us.flatMap fun u => u.cells.toList) rfl (HO.out.alloc _) ⟨u6.heap.size, 0, none⟩ 1 1 [.string vn, .bool true, .slice pa0 pl.length pc0, .int .i64 vw, .bool vg, .int .i64 vi] rfl rfl (by intro j z_ hj; have e : (⟨u6.heap.size, 0, none⟩ : Addr).add j = ⟨u6.heap.size, j, none⟩ := (by unfold Addr.add; split <;> simp_all); rw [e, (Blk.made u6 _ _).cell]; simpa using hj) (by intro z_ hz_; simp only [List.mem_cons, List.not_mem_nil, or_false] at hz_; rcases hz_ with rfl | rfl | rfl | rfl | rfl | rfl <;> rfl) (by decide) (by unfold maxLen; omega) (by omega) (by simp; omega) (u6.heap.size + 1) (by simp) ?_; intro g c' w7 hown hgrow hat hlt1; have HPU := Z_ (pushedG p0_keeps HU9.out.1 HU9.out.2 (x := ⟨vn, true, pl, vw, vg, vi⟩) (v := .agg #[.string vn, .bool true, .slice pa0 pl.length pc0, .int .i64 vw, .bool vg, .int .i64 vi]) (show OProc0 (hide M w) ⟨vn, true, pl, vw, vg, vi⟩ (.agg #[.string vn, .bool true, .slice pa0 pl.length pc0, .int .i64 vw, .bool vg, .int .i64 vi]) _ from HX9.out) rfl hown hgrow hat); have HL7 := Z_ (HL6.out.pushP HPU.out.1 HPU.out.2 (fresh_own hat)); have q1 := HL7.out.fb.cell; have q1f := HL7.out.fb.frozen; have q1l := HL7.out.fb.lt; clear hown hgrow hat hfc hff hfl hv)
      have HL8 := Z_ HL7.out.putP; clear q1 q1f q1l HPU; go_roundw
      case rel => exact ⟨q + 1, _, _, by omega, by go_num, by rw [HOV.out, if_pos (by simp)]; exact HL8⟩
      case measure => simp [intOf]; omega
    ·obtain rfl : q = n2 := by omega
     have hqd : decide ((q : Int) < (q : Int)) = false := by simp
     have hT : xp.take q = xp := List.take_of_length_le (by rw [H2.out]; exact Nat.le_refl _); rw [hT, HFP.out] at HL; obtain ⟨a3, c3, hr1, -, -⟩ := grow_slice HL.out.gv; obtain ⟨a4, c4, hr2, -, -⟩ := grow_slice HL.out.gp; subst hr1 hr2; have hfc := HL.out.fb.cell; have hr := HL.out.res.cell; have hrf := HL.out.res.frozen; have hrl := HL.out.res.lt; go_wp2_with fail
     have hC1 := chg_set (S := w.heap.size) (Chg.refl _ wr) 0 (.string m); have hC2 := chg_set hC1 1 (.slice a3 fv.length c3); have hC3 := chg_set hC2 2 (.slice a4 fp.length c4); have hE9 := HL.out.ext.trans hC3 (fun i hi e => by omega); have hface := HL.out.face HM.out hm hC3 (fun i e => by have := HL.out.hF; have := HL.out.hB; omega) hE9; have HR9 := Z_ (((HL.out.res.set 0 (.string m)).set 1 (.slice a3 fv.length c3)).set 2 (.slice a4 fp.length c4)); refine ends_at rfl rfl rfl HR9.out Tryz.underlying52 rfl (by kernel_rfl) ?_
     simp only [List.setIfInBounds_toArray, List.set_cons_succ, List.set_cons_zero]; exact ⟨_, rfl, hface, hE9⟩
end ofn
end Go.Proofs.YtpcihajmcejliabGreatDoor
namespace Go.Proofs.YtpcihajmcejliabGreatDoor
open Go.RowKit Go.WideMaps Go.Maps
def labB (n : Int) : Bool := n == 0 || n == 1
def varT (v : FVar) : Bool := v.pub && labB v.label && decide (0 ≤ v.size) && decide (v.size ≤ 64)
def procT (p : FProc) : Bool := p.pub && decide (p.params.length ≤ 5) && labB p.writes && labB p.given && (p.gives || p.given == 0) && p.params.all labB
def FVar.key (v : FVar) : List UInt8 := v.name.data.toList
def FProc.key (p : FProc) : List UInt8 := p.name.data.toList
def FFace.keys (f : FFace) : List (List UInt8) := f.vars.map FVar.key ++ f.procs.map FProc.key
def distinctB : List (List UInt8) → Bool
 | [] => true
 | x :: r => !r.contains x && distinctB r
def mayFaceB (f : FFace) : Bool :=
 nameB f.modn.data.toList && decide (f.vars.length + f.procs.length ≤ 20) && f.vars.all varT && f.procs.all procT && f.keys.all nameB && distinctB f.keys
namespace face
theorem distinct_append_one (l : List (List UInt8)) (x : List UInt8) : distinctB (l ++ [x]) = (distinctB l && !l.contains x) := by
 induction l with
 | nil => simp [distinctB]
 | cons y r ih =>
  have e1 : (r ++ [x]).contains y = (r.contains y || decide (y = x)) := by
   rw [Bool.eq_iff_iff]; simp
  have e2 : (y :: r).contains x = (decide (y = x) || r.contains x) := by
   rw [List.contains_cons, Bool.eq_iff_iff]; simp only [Bool.or_eq_true, beq_iff_eq, decide_eq_true_eq]; constructor
   ·rintro (h | h)
    ·exact .inl h.symm
    ·exact .inr h
   ·rintro (h | h)
    ·exact .inl h.symm
    ·exact .inr h
  simp only [List.cons_append, distinctB, ih, e1, e2]; cases r.contains y <;> cases r.contains x <;> cases distinctB r <;> cases decide (y = x) <;> rfl
def MapOf {H : Type} (D : DataW H) (L : List (List UInt8)) : Prop :=
 (∀ s, has D (.string s) = L.contains s) ∧ Maps.size D ≤ L.length ∧ (distinctB L = decide (Maps.size D = L.length))
theorem mapOf_nil {H : Type} : MapOf (.map [] : DataW H) [] := ⟨fun _ => rfl, Nat.le_refl _, rfl⟩
theorem mapOf_put {H : Type} {D : DataW H} {L : List (List UInt8)} (h : MapOf D L) (ht : Tidy D) (x : List UInt8) (d : DataW H) : MapOf (D.put (.string x) d) (L ++ [x]) := by
 obtain ⟨h1, h2, h3⟩ := h; have hk : WideAt.IsKeyLit (.string x) := by trivial
 have hsz := size_put ht (k := .string x) d; refine ⟨fun s => ?_, ?_, ?_⟩
 ·by_cases hs : s = x
  ·subst hs
   rw [has_put_same ht.isMap hk]; simp
  ·rw [has_put_other (by simpa using hs), h1]
   simp [hs]
 ·rw [hsz, List.length_append]
  simp
  split <;> omega
 ·rw [distinct_append_one, h3, hsz, h1 x]
  simp only [List.length_append, List.length_singleton]; cases hc : L.contains x
  ·simp
  ·simp; omega
theorem all_snoc {α : Type} (p : α → Bool) (l : List α) (k : Nat) (h : k < l.length) : (l.take (k + 1)).all p = ((l.take k).all p && p l[k]) := by
 rw [List.take_succ_eq_append_getElem h, List.all_append, List.all_cons, List.all_nil, Bool.and_true]
theorem all_bad {α : Type} {p : α → Bool} {l : List α} {k : Nat} (h : k < l.length) (hp : p l[k] = false) : l.all p = false := by
 rw [Bool.eq_false_iff]; intro ha; rw [List.all_eq_true] at ha; rw [ha _ (List.getElem_mem h)] at hp; cases hp
theorem all_whole {α : Type} {p : α → Bool} {l : List α} {k : Nat} (h : l.length = k) (hp : (l.take k).all p = true) : l.all p = true := by
 rw [List.take_of_length_le (by omega)] at hp; exact hp
end face
end Go.Proofs.YtpcihajmcejliabGreatDoor
namespace Go.Proofs.YtpcihajmcejliabGreatDoor
open Go.RowKit
namespace face
def WordIn (w : World) (b o : Nat) (x : ByteArray) : Prop := w.cell? ⟨b, o, none⟩ = some (.string x)
def PlacePost (B : Bool) (e : Ending) : Prop := ∃ k : Int, e = .returned (.int .i64 k) ∧ decide (0 ≤ k) = B
set_option maxRecDepth 100000 in
theorem place_any (a : Option Addr) (c : Nat) (l : List ByteArray) (s : ByteArray) (w : World) (hin : AllIn 1 WordIn w a l) (hl : l.length ≤ 9223372036854775806) :
  Calls Tryz.prog 187 #[.slice a l.length c, .string s] w fun e w' => PlacePost ((l.map fun x => x.data.toList).contains s.data.toList) e ∧ w' = w := by
 generalize hB : (l.map fun x => x.data.toList).contains s.data.toList = B; have HB := Z_ hB; clear hB; obtain ⟨n, hn⟩ : ∃ n, l.length = n := ⟨_, rfl⟩; have HN := Z_ hn; rw [hn] at hl ⊢; clear hn; go_enter Tryz.func187, Tryz.ntmps187
 go_wp2_with fail
 go_loop [5] (fun i => ∃ k : Nat, k ≤ n ∧ i = .int .i64 k ∧ Hid (∀ (q : Nat) (hq : q < l.length), q < k → l[q].data.toList ≠ s.data.toList)) (fun i => n - (intOf i).toNat)
 case atStart => exact ⟨0, Nat.zero_le _, rfl, fun q hq h => by omega⟩
 case round =>
  obtain ⟨k, hk, rfl, hrel⟩ := hrel; by_cases hlt : k < n
  ·have hki : (k : Int) < (n : Int) := by omega
   have hjl : k < l.length := by rw [HN.out]; exact hlt
   obtain ⟨b, o, rfl, hb, hc⟩ := hin k hjl; unfold WordIn at hc; obtain ⟨x, hx⟩ : ∃ x, l[k] = x := ⟨_, rfl⟩; rw [hx, Nat.mul_one] at hc; have HX := Z_ hx; have HIN := Z_ hin; clear hx hin; by_cases he : x.data.toList = s.data.toList
   ·have hF : B = true := by
     rw [← HB.out, List.contains_iff_mem, List.mem_map]; exact ⟨x, by rw [← HX.out]; exact List.getElem_mem _, he⟩
    have HF := Z_ hF; have h2 : (x.data.toList == s.data.toList) = true := by simpa using he
    have h3 : (x.toList == s.toList) = true := by rw [ByteArray.toList_eq, ByteArray.toList_eq]; simpa using he
    clear he hF; go_wp2_with fail
    go_ret
    exact ⟨⟨_, rfl, by rw [HF.out]; simp⟩, rfl⟩
   ·have HE := Z_ he
    have h2 : (x.data.toList == s.data.toList) = false := by simpa using he
    have h3 : (x.toList == s.toList) = false := by rw [ByteArray.toList_eq, ByteArray.toList_eq]; simpa using he
    clear he; go_wp2_with fail
    go_round
    case rel =>
     refine ⟨k + 1, by omega, by go_num, fun q hq h => ?_⟩
     by_cases e : q = k
     ·subst e; rw [HX.out]; exact HE.out
     ·exact hrel.out q hq (by omega)
    case measure => simp [intOf]; omega
  ·obtain rfl : k = n := by omega
   have hF : B = false := by
    rw [← HB.out, Bool.eq_false_iff]; intro h; rw [List.contains_iff_mem, List.mem_map] at h; obtain ⟨x, hx, e⟩ := h; obtain ⟨q, hq, rfl⟩ := List.getElem_of_mem hx; exact hrel.out q hq (by have := HN.out; omega) e
   have HF := Z_ hF; clear hF; go_wp2_with fail
   go_ret
   exact ⟨⟨_, rfl, by rw [HF.out]; rfl⟩, rfl⟩
end face
end Go.Proofs.YtpcihajmcejliabGreatDoor
namespace Go.Proofs.YtpcihajmcejliabGreatDoor
open Go.RowKit
namespace ofl
open synw ofp
theorem grow_kept {α : Type} {k : Nat} {E : TypeId} {V : α → Value → World → Prop} {B : Nat} {w w' : World} {row : Value} {acc : List α} (h : Grow k E V B w row acc) (hV : ∀ x u w w', V x u w → V x u w') {o : Option Nat} (hg : w.grownBy w' o) (hne : row.ownBlock = none ∨ row.ownBlock ≠ o) : Grow k E V B w' row acc := by
 obtain ⟨us, h1, h2, h3⟩ := h.ex; exact ⟨us, h1, h2.kept hg hne, fun j hj hj' => ⟨hV _ _ _ _ (h3 j hj hj').1, (h3 j hj hj').2⟩⟩
theorem str_any (x : ByteArray) (u : Value) (w w' : World) (h : OStr x u w) : OStr x u w' := h
theorem look_imp {m : ByteArray} {x : Nd} {r : List Nd} {I L : List (List UInt8)} {p : Nat} (hk : x.kd = 2) : lookF m (x :: r) I L p = if I.contains x.key = true then (5, p) else if x.tx = m then (5, p) else if 5 ≤ I.length then (1, p) else lookF m r (I ++ [x.key]) L (p + szF x) := by
 rw [lookF, if_pos hk]
theorem look_oth {m : ByteArray} {x : Nd} {r : List Nd} {I L : List (List UInt8)} {p : Nat} (hk : x.kd ≠ 2) : lookF m (x :: r) I L p = if L.contains x.key = true then (5, p) else if 20 ≤ L.length then (1, p) else if (declF x p).1 = 0 then lookF m r I (L ++ [x.key]) (p + szF x) else declF x p := by
 rw [lookF, if_neg hk]
structure LS (w u : World) (P B : Nat) (nc : Array Value) (ri rn : Value) (imps names : List ByteArray) : Prop where
 ext : Ext w u
 nd : Blk u P nc 66
 res : Blk u (P + 1) #[.int .i64 0, .int .i64 0] 68
 gi : Grow 1 9 OStr B u ri imps
 gn : Grow 1 9 OStr B u rn names
 apart : ∀ i, ri.ownBlock = some i → rn.ownBlock ≠ some i
 hw : w.heap.size ≤ P
 hB : P + 2 ≤ B
 hu : B ≤ u.heap.size
theorem LS.extend {w u u' : World} {P B : Nat} {nc : Array Value} {ri rn : Value} {imps names : List ByteArray} (h : LS w u P B nc ri rn imps names) (hE : Ext u u') : LS w u' P B nc ri rn imps names :=
 ⟨h.ext.ext hE, h.nd.ext hE, h.res.ext hE, h.gi.chg str_keeps hE (fun _ e => e.elim), h.gn.chg str_keeps hE (fun _ e => e.elim), h.apart, h.hw, h.hB, Nat.le_trans h.hu hE.size⟩
theorem LS.pushI {w u w4 : World} {P B : Nat} {nc : Array Value} {ri rn : Value} {imps names : List ByteArray} (h : LS w u P B nc ri rn imps names) {o : Obj} {g c : Nat} {x : ByteArray} (hG : Grow 1 9 OStr B w4 (.slice (some ⟨g, 0, none⟩) (imps.length + 1) c) (imps ++ [x])) (hg : (u.alloc o).grownBy w4 ri.ownBlock) (ha : ri.ownBlock = some g ∨ g = u.heap.size + 1) : LS w w4 P B nc (.slice (some ⟨g, 0, none⟩) (imps.length + 1) c) rn (imps ++ [x]) names := by
 have hC : Chg (fun i => ri.ownBlock = some i) u w4 := (((Chg.refl (fun _ => False) u).alloc o).weak (fun _ _ h => h.elim)).then (grown_own hg)
 have ho := grow_own h.gi; have hoi := grow_own h.gn; have h1 := h.hw; have h2 := h.hB; have h3 := h.hu
 refine ⟨h.ext.trans hC (fun i hi e => by have := ho i e; omega), h.nd.chg hC (fun e => by have := ho _ e; omega), h.res.chg hC (fun e => by have := ho _ e; omega), hG, ?_, ?_, h1, h2, Nat.le_trans h3 hC.size⟩
 ·refine grow_kept (h.gn.chg str_keeps ((Chg.refl (fun _ => False) u).alloc o) (fun _ e => e.elim)) str_any hg ?_
  cases hr : rn.ownBlock with
  | none => exact .inl rfl
  | some i => exact .inr fun e => h.apart i e.symm hr
 ·intro i hi e
  have : g = i := by simpa [Value.ownBlock] using hi
  subst this; rcases ha with ha | ha
  ·exact h.apart g ha e
  ·have := hoi g e; omega
theorem szF_imp {x : Nd} (h : ImpOk x) : szF x = 1 := by
 obtain ⟨k, t, m, l⟩ := x; have e : l = [] := h.kids; subst e; rfl
theorem len_le_szL (l : List Nd) : l.length ≤ szL l := by
 induction l with
 | nil => exact Nat.le_refl _
 | cons x r ih => have := sz_pos x; simp only [List.length_cons, szL]; omega
end ofl
end Go.Proofs.YtpcihajmcejliabGreatDoor
namespace Go.Proofs.YtpcihajmcejliabGreatDoor
open Go.RowKit
namespace off
open synw ofp
structure FA (w u : World) (P Fb B : Nat) (nc : Array Value) (t : ByteArray) (rvN rpN rv rp : Value) (vs : List FVar) (ps : List FProc) : Prop where
 ext : Ext w u
 nd : Blk u P nc 66
 res : Blk u (P + 1) #[.string ⟨#[]⟩, .slice none 0 0, .slice none 0 0] 52
 fb : Blk u Fb #[.string t, rvN, rpN] 52
 two : Two B u rv rp vs ps
 hw : w.heap.size ≤ P
 hF : P + 1 < Fb
 hB : Fb < B
 hu : B ≤ u.heap.size
theorem FA.extend {w u u' : World} {P Fb B : Nat} {nc : Array Value} {t : ByteArray} {rvN rpN rv rp : Value} {vs : List FVar} {ps : List FProc} (h : FA w u P Fb B nc t rvN rpN rv rp vs ps) (hE : Ext u u') : FA w u' P Fb B nc t rvN rpN rv rp vs ps :=
 ⟨h.ext.ext hE, h.nd.ext hE, h.res.ext hE, h.fb.ext hE, h.two.ext hE, h.hw, h.hF, h.hB, Nat.le_trans h.hu hE.size⟩
theorem FA.turn {w u u' : World} {P Fb B : Nat} {nc : Array Value} {t : ByteArray} {rvN rpN rv rp rv2 rp2 : Value} {vs vs2 : List FVar} {ps ps2 : List FProc} (h : FA w u P Fb B nc t rvN rpN rv rp vs ps) {S : Nat → Prop} (hC : Chg S u u') (hS : ∀ i, S i → B ≤ i) (h2 : Two B u' rv2 rp2 vs2 ps2) : FA w u' P Fb B nc t rvN rpN rv2 rp2 vs2 ps2 := by
 have h3 := h.hw; have h4 := h.hF; have h5 := h.hB; have h6 := h.hu
 exact ⟨h.ext.trans hC (fun i hi e => by have := hS i e; omega), h.nd.chg hC (fun e => by have := hS _ e; omega), h.res.chg hC (fun e => by have := hS _ e; omega), h.fb.chg hC (fun e => by have := hS _ e; omega), h2, h3, h4, h5, Nat.le_trans h6 hC.size⟩
theorem FA.putV {w u : World} {P Fb B : Nat} {nc : Array Value} {t : ByteArray} {rvN rpN rv rp : Value} {vs : List FVar} {ps : List FProc} (h : FA w u P Fb B nc t rvN rpN rv rp vs ps) : FA w (u.setCell ⟨Fb, 1, none⟩ rv) P Fb B nc t rv rpN rv rp vs ps := by
 have h3 := h.hw; have h4 := h.hF; have h5 := h.hB; have h6 := h.hu
 have hC := chg_set (S := Fb) (Chg.refl _ u) 1 rv; exact ⟨h.ext.trans hC (fun i hi e => by omega), h.nd.chg hC (by omega), h.res.chg hC (by omega), by have := h.fb.set 1 rv; exact this, h.two.chg hC (fun i e => by omega), h3, h4, h5, Nat.le_trans h6 hC.size⟩
theorem FA.putP {w u : World} {P Fb B : Nat} {nc : Array Value} {t : ByteArray} {rvN rpN rv rp : Value} {vs : List FVar} {ps : List FProc} (h : FA w u P Fb B nc t rvN rpN rv rp vs ps) : FA w (u.setCell ⟨Fb, 2, none⟩ rp) P Fb B nc t rvN rp rv rp vs ps := by
 have h3 := h.hw; have h4 := h.hF; have h5 := h.hB; have h6 := h.hu
 have hC := chg_set (S := Fb) (Chg.refl _ u) 2 rp; exact ⟨h.ext.trans hC (fun i hi e => by omega), h.nd.chg hC (by omega), h.res.chg hC (by omega), by have := h.fb.set 2 rp; exact this, h.two.chg hC (fun i e => by omega), h3, h4, h5, Nat.le_trans h6 hC.size⟩
end off
end Go.Proofs.YtpcihajmcejliabGreatDoor
namespace Go.Proofs.YtpcihajmcejliabGreatDoor
open Go.RowKit
namespace off
open synw ofp
theorem imps_take {l : List Nd} {q : Nat} (h : q < l.length) : impsF (l.take (q + 1)) = impsF (l.take q) ++ (if isImp l[q] = true then [l[q].tx] else []) := by
 rw [List.take_succ_eq_append_getElem h]; simp only [impsF, List.filter_append, List.map_append]; congr 1
 cases hv : isImp l[q] <;> simp [List.filter, hv]
end off
end Go.Proofs.YtpcihajmcejliabGreatDoor
namespace Go.Proofs.YtpcihajmcejliabGreatDoor
open Go.RowKit
namespace synr
open synw
set_option maxRecDepth 100000 in
set_option maxHeartbeats 4000000 in
theorem same_any : ∀ (x : Nd) (v1 v2 : Value) (w : World) (H1 H2 : Nat → Bool), NdAt (hide H1 w) x v1 → NdAt (hide H2 w) x v2 →
  Calls Tryz.prog 26 #[v1, v2] w fun e w' => e = .returned (.bool true) ∧ Ext w w' := by
 refine nd_ind fun k t n l ih v1 v2 w H1 H2 hx hy => ?_
 rw [ndAt_mk] at hx hy; obtain ⟨a, cc, rfl, hx1, hx2, hx3, hx4⟩ := hx; obtain ⟨a', cc', rfl, hy1, hy2, hy3, hy4⟩ := hy; obtain ⟨N, hN⟩ : ∃ N, l.length = N := ⟨_, rfl⟩; have hNm : N ≤ 9223372036854775807 := by unfold maxLen at hx2; omega
 have HN := Z_ hN; rw [hN]; have HIH := Z_ ih; have HI := Z_ (fun (u : World) (hE : Ext w u) => hx4.keeps (keeps_chg hE fun i _ e => e.elim) fun b o y => ndIn_keeps (keeps_chg hE fun i _ e => e.elim) b o y); have HJ := Z_ (fun (u : World) (hE : Ext w u) => hy4.keeps (keeps_chg hE fun i _ e => e.elim) fun b o y => ndIn_keeps (keeps_chg hE fun i _ e => e.elim) b o y); have hE1 := ((Chg.refl (fun _ => False) w).alloc (.cells #[.int .i64 k, .string t, .int .i64 n, .slice a N cc] 66)).alloc (.cells #[.int .i64 k, .string t, .int .i64 n, .slice a' N cc'] 66); have HK := Z_ ((Blk.made w #[.int .i64 k, .string t, .int .i64 n, .slice a N cc] 66).alloc (.cells #[.int .i64 k, .string t, .int .i64 n, .slice a' N cc'] 66)); have HL := Z_ (Blk.made2 w (.cells #[.int .i64 k, .string t, .int .i64 n, .slice a N cc] 66) #[.int .i64 k, .string t, .int .i64 n, .slice a' N cc'] 66)
 have HE1 := Z_ hE1; obtain ⟨P, hP⟩ : ∃ P, w.heap.size = P := ⟨_, rfl⟩; rw [hP] at HK HL; have hPP : P ≠ P + 1 := by omega
 have ht : (t.toList == t.toList) = true := by simp
 clear hx4 hy4 hN ih hE1; go_enter Tryz.func26, Tryz.ntmps26
 go_upto_region 1 with (fail)
 generalize (w.alloc (.cells #[.int .i64 k, .string t, .int .i64 n, .slice a N cc] 66)).alloc (.cells #[.int .i64 k, .string t, .int .i64 n, .slice a' N cc'] 66) = w1 at *; have hk := HK.out.cell; have hl := HL.out.cell; go_wp2_with fail
 clear hk hl; go_loopw [5] (fun i wr => ∃ q : Nat, q ≤ N ∧ i = .int .i64 q ∧ Hid (Ext w wr) ∧ Hid (Blk wr P #[.int .i64 k, .string t, .int .i64 n, .slice a N cc] 66) ∧ Hid (Blk wr (P + 1) #[.int .i64 k, .string t, .int .i64 n, .slice a' N cc'] 66)) (fun i _ => N - (intOf i).toNat)
 case atStart => exact ⟨0, Nat.zero_le _, rfl, HE1, HK, HL⟩
 clear HE1 HK HL
 case round =>
  obtain ⟨q, hq, rfl, HE, HK, HL⟩ := hrel; have hk := HK.out.cell; have hl := HL.out.cell; by_cases hlt : q < N
  ·have hql : q < l.length := by rw [HN.out]; exact hlt
   have hqi : (q : Int) < (N : Int) := by omega
   have hqd : decide ((q : Int) < (N : Int)) = true := by simpa using hqi
   obtain ⟨b, o, rfl, hb, u, hu, hus, hcl⟩ := HI.out wr HE.out q hql; obtain ⟨b', o', rfl, hb', u', hu', hus', hcl'⟩ := HJ.out wr HE.out q hql; rw [hide_size] at hb hb'; obtain ⟨k1, t1, n1, a1, l1, c1, rfl⟩ := nd_form hu; obtain ⟨k2, t2, n2, a2, l2, c2, rfl⟩ := nd_form hu'; have p0 : wr.cell? ⟨b, o + q * 4, none⟩ = some (.int .i64 k1) := (keeps_bare H1 wr).2 _ _ ((hcl 0 (by decide)).trans rfl); have p1 : wr.cell? ⟨b, o + q * 4 + 1, none⟩ = some (.string t1) := (keeps_bare H1 wr).2 _ _ ((hcl 1 (by decide)).trans rfl); have p2 : wr.cell? ⟨b, o + q * 4 + 2, none⟩ = some (.int .i64 n1) := (keeps_bare H1 wr).2 _ _ ((hcl 2 (by decide)).trans rfl); have p3 : wr.cell? ⟨b, o + q * 4 + 3, none⟩ = some (.slice a1 l1 c1) := (keeps_bare H1 wr).2 _ _ ((hcl 3 (by decide)).trans rfl); have r0 : wr.cell? ⟨b', o' + q * 4, none⟩ = some (.int .i64 k2) := (keeps_bare H2 wr).2 _ _ ((hcl' 0 (by decide)).trans rfl)
   have r1 : wr.cell? ⟨b', o' + q * 4 + 1, none⟩ = some (.string t2) := (keeps_bare H2 wr).2 _ _ ((hcl' 1 (by decide)).trans rfl); have r2 : wr.cell? ⟨b', o' + q * 4 + 2, none⟩ = some (.int .i64 n2) := (keeps_bare H2 wr).2 _ _ ((hcl' 2 (by decide)).trans rfl); have r3 : wr.cell? ⟨b', o' + q * 4 + 3, none⟩ = some (.slice a2 l2 c2) := (keeps_bare H2 wr).2 _ _ ((hcl' 3 (by decide)).trans rfl); have HC := Z_ (fun (w' : World) (hE : Ext wr w') => HIH.out l[q] (List.getElem_mem hql) _ _ w' H1 H2 (ndAt_keeps (keeps_chg hE fun _ _ h => h.elim) _ _ hu) (ndAt_keeps (keeps_chg hE fun _ _ h => h.elim) _ _ hu')); have k3 : wr.cell? ⟨P, 3, none⟩ = some (.slice (some ⟨b, o, none⟩) N cc) := (hk 3).trans rfl; have l3 : wr.cell? ⟨P + 1, 3, none⟩ = some (.slice (some ⟨b', o', none⟩) N cc') := (hl 3).trans rfl; have hPl := HK.out.lt; have hPl2 := HL.out.lt; have HKE := Z_ (fun (u : World) (hE : Ext wr u) => (⟨hE, (hE.cell (p := ⟨P, 3, none⟩) hPl id).trans k3, (hE.cell (p := ⟨P + 1, 3, none⟩) hPl2 id).trans l3, (hE.cell (p := ⟨b, o + q * 4, none⟩) hb id).trans p0, (hE.cell (p := ⟨b, o + q * 4 + 1, none⟩) hb id).trans p1, (hE.cell (p := ⟨b, o + q * 4 + 2, none⟩) hb id).trans p2, (hE.cell (p := ⟨b, o + q * 4 + 3, none⟩) hb id).trans p3, (hE.cell (p := ⟨b', o' + q * 4, none⟩) hb' id).trans r0, (hE.cell (p := ⟨b', o' + q * 4 + 1, none⟩) hb' id).trans r1, (hE.cell (p := ⟨b', o' + q * 4 + 2, none⟩) hb' id).trans r2, (hE.cell (p := ⟨b', o' + q * 4 + 3, none⟩) hb' id).trans r3⟩ : Ext wr u ∧ u.cell? ⟨P, 3, none⟩ = some (.slice (some ⟨b, o, none⟩) N cc) ∧ u.cell? ⟨P + 1, 3, none⟩ = some (.slice (some ⟨b', o', none⟩) N cc') ∧ u.cell? ⟨b, o + q * 4, none⟩ = some (.int .i64 k1) ∧ u.cell? ⟨b, o + q * 4 + 1, none⟩ = some (.string t1) ∧ u.cell? ⟨b, o + q * 4 + 2, none⟩ = some (.int .i64 n1) ∧ u.cell? ⟨b, o + q * 4 + 3, none⟩ = some (.slice a1 l1 c1) ∧ u.cell? ⟨b', o' + q * 4, none⟩ = some (.int .i64 k2) ∧ u.cell? ⟨b', o' + q * 4 + 1, none⟩ = some (.string t2) ∧ u.cell? ⟨b', o' + q * 4 + 2, none⟩ = some (.int .i64 n2) ∧ u.cell? ⟨b', o' + q * 4 + 3, none⟩ = some (.slice a2 l2 c2)))
   clear hu hu' hcl hcl' hus hus'; go_wp2_with fail
   go_region_held3 (fun u => Ext wr u ∧ u.cell? ⟨P, 3, none⟩ = some (.slice (some ⟨b, o, none⟩) N cc) ∧ u.cell? ⟨P + 1, 3, none⟩ = some (.slice (some ⟨b', o', none⟩) N cc') ∧ u.cell? ⟨b, o + q * 4, none⟩ = some (.int .i64 k1) ∧ u.cell? ⟨b, o + q * 4 + 1, none⟩ = some (.string t1) ∧ u.cell? ⟨b, o + q * 4 + 2, none⟩ = some (.int .i64 n1) ∧ u.cell? ⟨b, o + q * 4 + 3, none⟩ = some (.slice a1 l1 c1) ∧ u.cell? ⟨b', o' + q * 4, none⟩ = some (.int .i64 k2) ∧ u.cell? ⟨b', o' + q * 4 + 1, none⟩ = some (.string t2) ∧ u.cell? ⟨b', o' + q * 4 + 2, none⟩ = some (.int .i64 n2) ∧ u.cell? ⟨b', o' + q * 4 + 3, none⟩ = some (.slice a2 l2 c2))
    (first | exact HKE.out _ (Chg.refl _ _) | exact HKE.out _ ((Chg.refl _ _).drew) | exact HKE.out _ (by assumption))
    ((go_at_call 26; refine (HC.out _ (by first | exact Chg.refl _ _ | exact (Chg.refl _ _).drew)).mono ?_; rintro e w' ⟨rfl, hE2⟩; have hE3 : Ext wr w' := (Chg.refl _ wr).drew.ext hE2))
   rename_i hH
   clear hH; have HE9 := Z_ (HE.out.ext hE3); have HK9 := Z_ (HK.out.ext hE3); have HL9 := Z_ (HL.out.ext hE3); clear hE2 hE3 HE HK HL hk hl HKE HC p0 p1 p2 p3 r0 r1 r2 r3 k3 l3; go_wp2_with fail
   go_roundw
   case rel => exact ⟨q + 1, by omega, by go_num, HE9, HK9, HL9⟩
   case measure => simp [intOf]; omega
  ·obtain rfl : q = N := by omega
   have hqd : decide ((q : Int) < (q : Int)) = false := by simp
   go_wp2_with fail
   go_ret
   exact ⟨rfl, HE.out⟩
end synr
end Go.Proofs.YtpcihajmcejliabGreatDoor
namespace Go.Proofs.YtpcihajmcejliabGreatDoor
open Go.RowKit
def signL : List (List UInt8) := [[61, 61], [123], [125], [40], [41], [91], [93], [59], [44], [46], [61], [60], [43], [45], [42], [47], [37], [38], [124], [33]]
namespace rlex
theorem sign_none (l : List UInt8) (h : ∀ x ∈ signL, Lib.hasPrefix l x = false) : signN l = 0 := by
 have h1 : Lib.hasPrefix l [61, 61] = false := h [61, 61] (by decide); unfold signN; rw [if_neg (by rw [h1]; simp)]; cases l with
 | nil => rfl
 | cons c r =>
  show (if signsL.contains c then 1 else 0) = 0
  rw [if_neg]; intro hc; have key : ∀ c ∈ signsL, [c] ∈ signL := by decide
  have := h _ (key c (by simpa using hc)); simp [Lib.hasPrefix] at this
theorem sign_one (l : List UInt8) (k : Nat) (hk : k < signL.length) (h : ∀ j (hj : j < signL.length), j < k → Lib.hasPrefix l signL[j] = false) (hm : Lib.hasPrefix l signL[k] = true) : signN l = signL[k].length := by
 unfold signN; by_cases h0 : k = 0
 ·subst h0
  have hm : Lib.hasPrefix l [61, 61] = true := hm; rw [if_pos hm]; rfl
 ·have h1 : Lib.hasPrefix l [61, 61] = false := h 0 (by decide) (by omega)
  rw [if_neg (by rw [h1]; simp)]; have key : ∀ x ∈ signL.tail, x.length = 1 ∧ ∀ c ∈ x, c ∈ signsL := by decide
  have hmem : signL[k] ∈ signL.tail := by
   rw [List.mem_iff_getElem]; refine ⟨k - 1, by simp; omega, ?_⟩
   rw [List.getElem_tail]; congr 1
   omega
  obtain ⟨h2, h3⟩ := key _ hmem; rw [h2]; obtain ⟨c, he⟩ := List.length_eq_one_iff.1 h2; rw [he] at hm h3; cases l with
  | nil => simp [Lib.hasPrefix] at hm
  | cons d r =>
   have : c = d := by simpa [Lib.hasPrefix] using hm
   subst this; show (if signsL.contains c then 1 else 0) = 1
   rw [if_pos (by simpa using h3 c (by simp))]
theorem prefix_extract (s : ByteArray) (x : List UInt8) (k : Nat) (hx : x ≠ []) : Lib.hasPrefix (s.data.toList.drop k) x = (decide (k + x.length ≤ s.size) && ((s.extract k (k + x.length)).data.toList == x)) := by
 rw [lex.extract_list, Bool.eq_iff_iff]; simp only [Lib.hasPrefix, List.isPrefixOf_iff_prefix, Bool.and_eq_true, decide_eq_true_eq, beq_iff_eq]; have e2 : s.data.toList.length = s.size := by rw [Array.length_toList]; rfl
 have e3 : 0 < x.length := List.length_pos_iff.2 hx; constructor
 ·intro h
  have := h.length_le; rw [List.length_drop] at this; exact ⟨by omega, (List.prefix_iff_eq_take.1 h).symm⟩
 ·rintro ⟨h, h2⟩
  rw [← h2]; exact List.take_prefix _ _
set_option maxRecDepth 100000 in
set_option maxHeartbeats 1000000 in
theorem sign_any (s : ByteArray) (k : Nat) (w : World) (hs : s.size ≤ 100000) (hk : k ≤ s.size) (T : Nat) (hT : Hid (signN (s.data.toList.drop k) = T)) :
  Calls Tryz.prog 157 #[.string s, .int .i64 k] w fun e w' => ∃ t : ByteArray, e = .returned (.string t) ∧ t.size = T ∧ Ext w w' := by
 go_enter Tryz.func157, Tryz.ntmps157
 go_wp2_with fail
 have hB : Blk (w.alloc (.cells (signL.map fun l => Value.string ⟨l.toArray⟩).toArray 9)) w.heap.size (signL.map fun l => Value.string ⟨l.toArray⟩).toArray 9 := Blk.made _ _ _; have hE : Ext w (w.alloc (.cells (signL.map fun l => Value.string ⟨l.toArray⟩).toArray 9)) := (Chg.refl _ w).alloc _; have hF : w.alloc (.cells (signL.map fun l => Value.string ⟨l.toArray⟩).toArray 9) = w.alloc (.cells #[.string ⟨#[61, 61]⟩, .string ⟨#[123]⟩, .string ⟨#[125]⟩, .string ⟨#[40]⟩, .string ⟨#[41]⟩, .string ⟨#[91]⟩, .string ⟨#[93]⟩, .string ⟨#[59]⟩, .string ⟨#[44]⟩, .string ⟨#[46]⟩, .string ⟨#[61]⟩, .string ⟨#[60]⟩, .string ⟨#[43]⟩, .string ⟨#[45]⟩, .string ⟨#[42]⟩, .string ⟨#[47]⟩, .string ⟨#[37]⟩, .string ⟨#[38]⟩, .string ⟨#[124]⟩, .string ⟨#[33]⟩] 9) := rfl; rw [← hF]; clear hF; generalize w.alloc (.cells (signL.map fun l => Value.string ⟨l.toArray⟩).toArray 9) = w1 at *
 have hcell : ∀ j (hj : j < signL.length), w1.cell? ⟨w.heap.size, j, none⟩ = some (.string ⟨signL[j].toArray⟩) := by
  intro j hj; rw [hB.cell]; simp [hj]
 clear hB; have hlen : signL.length = 20 := rfl; have HC := Z_ hcell; have hne : ∀ x ∈ signL, x ≠ [] ∧ x.length ≤ 2 := by decide
 have HNE := Z_ hne; have HSO := Z_ (sign_one (s.data.toList.drop k)); have HNO := Z_ (sign_none (s.data.toList.drop k)); clear hcell hne; generalize signL = L at *; have HL := Z_ hlen; clear hlen; generalize w.heap.size = b at *; go_loopw [6] (fun i wr => ∃ j : Nat, j ≤ 20 ∧ i = .int .i64 j ∧ (∃ n, wr = w1.drewN n) ∧ Hid (∀ i (hi : i < L.length), i < j → Lib.hasPrefix (s.data.toList.drop k) L[i] = false)) (fun i _ => 20 - (intOf i).toNat)
 case atStart => exact ⟨0, by omega, rfl, ⟨0, rfl⟩, fun i hi h => by omega⟩
 case round =>
  obtain ⟨j, hj, rfl, ⟨m, rfl⟩, hrel⟩ := hrel; by_cases hlt : j < 20
  ·have hji : (j : Int) < 20 := by omega
   have hjl : j < L.length := by rw [HL.out]; exact hlt
   have hc := HC.out j hjl; have hn := HNE.out _ (List.getElem_mem hjl); have hpe := prefix_extract s L[j] k hn.1; have hso := HSO.out j hjl hrel.out; obtain ⟨x, hx⟩ : ∃ x, L[j] = x := ⟨_, rfl⟩; rw [hx] at hc hn hpe hso; have HX := Z_ hx; have hsx : (⟨x.toArray⟩ : ByteArray).size = x.length := by show x.toArray.size = _; simp
   clear hx; by_cases hfit : k + x.length ≤ s.size
   ·obtain ⟨E, hE⟩ : ∃ E, ((s.extract k (k + x.length)).data.toList == x) = E := ⟨_, rfl⟩
    rw [hE] at hpe; have hpe2 : Lib.hasPrefix (s.data.toList.drop k) x = E := by rw [hpe]; simp [hfit]
    have HP := Z_ hpe2; have HSO2 := Z_ hso; clear hpe hpe2 hso; have hEE : ((s.extract k (k + x.length)).toList == x) = E := by rw [ByteArray.toList_eq]; exact hE
    clear hE; obtain ⟨q, hq⟩ : ∃ q, k + x.length = q := ⟨_, rfl⟩; rw [hq] at hEE hfit; have hw : IntKind.i64.wrap ((k : Int) + (x.length : Int)) = (q : Int) := (IntWalk.i64_in _ (by omega)).trans (by omega); have hq1 : (k : Int) ≤ (q : Int) := by omega
    have hq2 : (q : Int) ≤ (s.size : Int) := by omega
    clear hq; cases E
    ·go_wp2_with fail
     go_quiet (fail)
     clear hw; go_wp2_with fail
     go_roundw
     case rel =>
      refine ⟨j + 1, by omega, by go_num, ⟨_, rfl⟩, fun i hi h => ?_⟩
      by_cases e : i = j
      ·subst e; rw [HX.out]; exact HP.out
      ·exact hrel.out i hi (by omega)
     case measure => simp [intOf]; omega
    ·go_wp2_with fail
     go_quiet (fail)
     clear hw; go_wp2_with fail
     go_ret
     exact ⟨_, rfl, by rw [← hT.out, HSO2.out HP.out, hsx], hE.drewN _⟩
   ·have hpf : Lib.hasPrefix (s.data.toList.drop k) x = false := by rw [hpe]; simp [hfit]
    have HP := Z_ hpf; obtain ⟨q, hq⟩ : ∃ q, k + x.length = q := ⟨_, rfl⟩; have hw : IntKind.i64.wrap ((k : Int) + (x.length : Int)) = (q : Int) := (IntWalk.i64_in _ (by omega)).trans (by omega); have hq2 : decide (q ≤ s.size) = false := by simp; omega
    clear hpe hso hpf hq hfit; go_wp2_with fail
    go_quiet (fail)
    clear hw; go_wp2_with fail
    go_roundw
    case rel =>
     refine ⟨j + 1, by omega, by go_num, ⟨_, rfl⟩, fun i hi h => ?_⟩
     by_cases e : i = j
     ·subst e; rw [HX.out]; exact HP.out
     ·exact hrel.out i hi (by omega)
    case measure => simp [intOf]; omega
  ·obtain rfl : j = 20 := by omega
   have h0 : T = 0 := by
    rw [← hT.out]; refine HNO.out fun x hx => ?_
    obtain ⟨i, hi, rfl⟩ := List.getElem_of_mem hx; exact hrel.out i hi (by have := HL.out; omega)
   subst h0; go_wp2_with fail
   go_ret
   exact ⟨_, rfl, rfl, hE.drewN _⟩
end rlex
end Go.Proofs.YtpcihajmcejliabGreatDoor
namespace Go.Proofs.YtpcihajmcejliabGreatDoor
open Go.RowKit
namespace rlex
set_option maxRecDepth 100000 in
set_option maxHeartbeats 1000000 in
theorem numeral_any (s : ByteArray) (w : World) (hs : s.size ≤ 100000) (h0 : 0 < s.size) (T : Int) (hT : Hid (numeralF s.data.toList = T)) :
  Calls Tryz.prog 156 #[.string s] w fun e w' => e = .returned (.int .i64 T) ∧ w = w' := by
 have hsz : s.data.toList.length = s.size := by rw [Array.length_toList]; rfl
 go_enter Tryz.func156, Tryz.ntmps156
 go_wp2_with fail
 go_loop [3] (fun i => ∃ k : Nat, k ≤ s.size ∧ i = .int .i64 k ∧ Hid (digs (s.data.toList.take k) = true)) (fun i => s.size - (intOf i).toNat)
 case atStart => exact ⟨0, Nat.zero_le _, rfl, rfl⟩
 case round =>
  obtain ⟨k, hk, rfl, hrel⟩ := hrel; by_cases hlt : k < s.size
  ·have hd : decide ((k : Int) < (s.size : Int)) = true := by simp; omega
   have ht := digs_take s k hlt; rw [hrel.out, Bool.true_and] at ht; cases hb : digitB s[k].toNat
   ·have cc := digit_any s[k].toNat
    rw [hb] at cc ht; have CC := Z_ cc
    have hf : T = 2 := by
     rw [← hT.out, numeralF, if_pos]; cases hq : digs s.data.toList
     ·rfl
     ·have : digs (s.data.toList.take (k + 1)) = true := by
       simp only [digs, List.all_eq_true] at hq ⊢; exact fun x hx => hq x (List.mem_of_mem_take hx)
      rw [ht] at this; cases this
    have HF := Z_ hf; clear cc hb ht hf; go_wp2_with (go_at_call 155; refine (CC.out _).mono ?_; rintro e w' ⟨rfl, rfl⟩)
    go_ret
    exact ⟨ret_int HF.out.symm, rfl⟩
   ·have cc := digit_any s[k].toNat
    rw [hb] at cc ht; have CC := Z_ cc; have HT := Z_ ht; clear cc hb ht; go_wp2_with (go_at_call 155; refine (CC.out _).mono ?_; rintro e w' ⟨rfl, rfl⟩)
    go_round
    case rel => exact ⟨k + 1, by omega, by go_num, HT.out⟩
    case measure => simp [intOf]; omega
  ·obtain rfl : k = s.size := by omega
   have hd : decide ((s.size : Int) < (s.size : Int)) = false := by simp
   have hdig : digs s.data.toList = true := by
    have := hrel.out; rwa [List.take_of_length_le (by omega)] at this
   have hne : s.data.toList ≠ [] := by intro h; rw [h] at hsz; simp at hsz; omega
   have hh : s.data.toList.head? = some s[0] := by
    rw [List.head?_eq_getElem?, List.getElem?_eq_getElem (by omega)]; rfl
   have hT' := hT.out; rw [numeralF, if_neg (by simp [hdig])] at hT'; clear hrel; by_cases hz : 1 < s.size ∧ (s[0].toNat : Int) = 48
   ·obtain ⟨h1, hz⟩ := hz
    rw [if_pos ⟨by omega, by rw [hh, (u8_int s[0] 48).1 hz]⟩] at hT'; subst hT'; have hb : ((s[0].toNat : Int) == 48) = true := by rw [hz]; rfl
    clear hz hdig; go_wp2_with fail
    go_ret
    exact ⟨rfl, rfl⟩
   ·rw [if_neg (by rw [hh, hsz]; intro h; exact hz ⟨h.1, (u8_int s[0] 48).2 (Option.some.inj h.2)⟩)] at hT'
    have hlow : 1 < s.size → 10 ^ (s.size - 1) ≤ decFrom 0 s.data.toList := by
     intro h1; cases hl : s.data.toList with
     | nil => exact absurd hl hne
     | cons c r =>
      rw [hl] at hh hsz hdig; obtain ⟨hc, _⟩ := (digs_cons c r).1 hdig; have hc0 : c = s[0] := by simpa using hh
      have : 49 ≤ c.toNat := by
       rcases Nat.lt_or_ge c.toNat 49 with h | h
       ·exact absurd ⟨h1, by rw [← hc0]; omega⟩ hz
       ·exact h
      have := decFrom_head c r this; have e : s.size - 1 = r.length := by simp at hsz; omega
      rw [e]; exact this
    have hup := decFrom_lt _ hdig; rw [hsz] at hup
    have hzz : 1 < s.size → ((s[0].toNat : Int) == 48) = false := by
     intro h1; rw [beq_eq_false_iff_ne]; intro h; exact hz ⟨h1, h⟩
    clear hz; by_cases hL : 19 < s.size
    ·have hp : (10 : Nat) ^ 19 ≤ 10 ^ (s.size - 1) := Nat.pow_le_pow_right (by omega) (by omega)
     have hlow := hlow (by omega); have e19 : (10 : Nat) ^ 19 = 10000000000000000000 := by decide
     rw [if_pos (by omega)] at hT'; subst hT'; have hzz := hzz (by omega); clear hp hlow e19 hup hdig hne hh; go_wp2_with fail
     go_ret
     exact ⟨rfl, rfl⟩
    ·by_cases hE : s.size = 19
     ·have hzz := hzz (by omega)
      have hHE := Z_ hE; have hcmp := less_iff s.data.toList mostL (by rw [hsz, hE]; rfl) hdig (by decide); have hcmp2 := less_iff mostL s.data.toList (by rw [hsz, hE]; rfl) (by decide) hdig; have htot := less_total s.data.toList mostL (by rw [hsz, hE]; rfl); rw [most_dec] at hcmp hcmp2; have hlt19 : 18 < s.size := by omega
      obtain ⟨L, hL1⟩ : ∃ L, Op.bytesLess s.data.toList mostL = L := ⟨_, rfl⟩; obtain ⟨E, hE1⟩ : ∃ E, (s.data.toList == mostL) = E := ⟨_, rfl⟩; have l1 : Op.bytesLess s.toList [57, 50, 50, 51, 51, 55, 50, 48, 51, 54, 56, 53, 52, 55, 55, 53, 56, 48, 55] = L := by rw [ByteArray.toList_eq]; exact hL1
      have l2 : (s.toList == [57, 50, 50, 51, 51, 55, 50, 48, 51, 54, 56, 53, 52, 55, 55, 53, 56, 48, 55]) = E := by rw [ByteArray.toList_eq]; exact hE1
      have hTT : T = if (!L && !E) = true then 6 else 0 := by
       rw [← hT']; rw [hL1] at hcmp htot; cases L
       ·cases E
        ·have h3 : Op.bytesLess mostL s.data.toList = true := by
          cases h : Op.bytesLess mostL s.data.toList
          ·have := htot rfl h
           rw [this] at hE1; exact absurd hE1 (by decide)
          ·rfl
         rw [if_pos (by have := hcmp2.1 h3; omega)]; rfl
        ·have : s.data.toList = mostL := by simpa using hE1
         have e := most_dec; rw [← this] at e; rw [if_neg (by omega)]; rfl
       ·rw [if_neg (by have := hcmp.1 rfl; omega)]
        rfl
      have HTT := Z_ hTT; clear hE hup hlow hcmp hcmp2 htot hL1 hE1 hTT hT' hne hh hdig hd; cases L <;> cases E
      all_goals
       go_wp2_with fail
       go_ret
       exact ⟨ret_int HTT.out.symm, rfl⟩
     ·have e18 : (10 : Nat) ^ 18 = 1000000000000000000 := by decide
      have hp : (10 : Nat) ^ s.size ≤ 10 ^ 18 := Nat.pow_le_pow_right (by omega) (by omega); rw [if_neg (by omega)] at hT'; subst hT'; have hl18 : s.size < 19 := by omega
      have hE' : ((s.size : Int) == 19) = false := by rw [beq_eq_false_iff_ne]; omega
      clear e18 hp hup hlow hdig hne hh hL hE; by_cases h1 : 1 < s.size
      ·have hzz := hzz h1
       go_wp2_with fail
       go_ret
       exact ⟨rfl, rfl⟩
      ·clear hzz
       go_wp2_with fail
       go_ret
       exact ⟨rfl, rfl⟩
end rlex
end Go.Proofs.YtpcihajmcejliabGreatDoor
