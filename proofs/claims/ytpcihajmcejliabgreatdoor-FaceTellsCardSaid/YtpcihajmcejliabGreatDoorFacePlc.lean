/- The walk of the program's Open: what others know of declarations. Faces, in plain Lean; and how one lies in memory. The walk of a text's place in a list. -/
import Derived.Maps.OwnSet
import Derived.Maps.OwnOps
import Derived.Test.YtpcihajmcejliabGreatDoorOfE
import Derived.Test.YtpcihajmcejliabGreatDoorLexBlanks
import Derived.Test.YtpcihajmcejliabGreatDoorNameMath
namespace Go.Proofs.YtpcihajmcejliabGreatDoor
open Go.RowKit
namespace ofn
open synw ofp
def OProc0 (w0 : World) (x : FProc) (v : Value) (_ : World) : Prop := OProc x v w0
theorem p0_any {w0 : World} (x : FProc) (u : Value) (w w' : World) (h : OProc0 w0 x u w) : OProc0 w0 x u w' := h
theorem p0_keeps {w0 : World} (x : FProc) (u : Value) (w w' : World) (_ : Keeps w w') (h : OProc0 w0 x u w) : OProc0 w0 x u w' := h
def ProcIn0 (w0 w : World) (b o : Nat) (x : FProc) : Prop := ∃ u, OProc x u w0 ∧ u.cells.size = 6 ∧ ∀ i, i < 6 → w.cell? ⟨b, o + i, none⟩ = u.cells[i]?
theorem p0_lies {w0 : World} (w : World) (b o : Nat) (x : FProc) (u : Value) (h : OProc0 w0 x u w) (hs : u.cells.size = 6) (hc : ∀ i, i < 6 → w.cell? ⟨b, o + i, none⟩ = u.cells[i]?) : ProcIn0 w0 w b o x := ⟨u, h, hs, hc⟩
structure OB (wq w u : World) (D Fb B : Nat) (dc : Array Value) (m : ByteArray) (rvN rpN rv rp : Value) (vs : List FVar) (ps : List FProc) : Prop where
 ext : Ext w u
 d : Blk u D dc 175
 res : Blk u w.heap.size #[.string ⟨#[]⟩, .slice none 0 0, .slice none 0 0] 52
 fb : Blk u Fb #[.string m, rvN, rpN] 52
 gv : Grow 4 82 OVar B u rv vs
 gp : Grow 6 179 (OProc0 wq) B u rp ps
 apart : ∀ i, rv.ownBlock = some i → rp.ownBlock ≠ some i
 hD : D < w.heap.size
 hF : w.heap.size < Fb
 hB : Fb < B
 hu : B ≤ u.heap.size
theorem OB.extend {wq w u u' : World} {D Fb B : Nat} {dc : Array Value} {m : ByteArray} {rvN rpN rv rp : Value} {vs : List FVar} {ps : List FProc} (h : OB wq w u D Fb B dc m rvN rpN rv rp vs ps) (hE : Ext u u') : OB wq w u' D Fb B dc m rvN rpN rv rp vs ps :=
 ⟨h.ext.ext hE, h.d.ext hE, h.res.ext hE, h.fb.ext hE, h.gv.chg var_keeps hE (fun _ e => e.elim), h.gp.chg p0_keeps hE (fun _ e => e.elim), h.apart, h.hD, h.hF, h.hB, Nat.le_trans h.hu hE.size⟩
theorem OB.pushV {wq w u u' : World} {D Fb B : Nat} {dc : Array Value} {m : ByteArray} {rvN rpN rv rp r : Value} {vs vs2 : List FVar} {ps : List FProc} (h : OB wq w u D Fb B dc m rvN rpN rv rp vs ps) (hG : Grow 4 82 OVar B u' r vs2) (hC : Chg (fun i => rv.ownBlock = some i) u u') (ha : ∀ i, r.ownBlock = some i → rv.ownBlock = some i ∨ u.heap.size ≤ i) : OB wq w u' D Fb B dc m rvN rpN r rp vs2 ps := by
 have h1 := h.hD; have h2 := h.hF; have h3 := h.hB
 have ho := grow_own h.gv; refine ⟨h.ext.trans hC (fun i hi e => by have := ho i e; omega), h.d.chg hC (fun e => by have := ho _ e; omega), h.res.chg hC (fun e => by have := ho _ e; omega), h.fb.chg hC (fun e => by have := ho _ e; omega), hG, grow_away h.gp p0_any hC (fun i hi hs => h.apart i hs hi), fun i hi e => ?_, h1, h2, h3, Nat.le_trans h.hu hC.size⟩
 rcases ha i hi with h4 | h4
 ·exact h.apart i h4 e
 ·have := grow_own h.gp i e; omega
theorem OB.pushP {wq w u u' : World} {D Fb B : Nat} {dc : Array Value} {m : ByteArray} {rvN rpN rv rp r : Value} {vs : List FVar} {ps ps2 : List FProc} (h : OB wq w u D Fb B dc m rvN rpN rv rp vs ps) (hG : Grow 6 179 (OProc0 wq) B u' r ps2) (hC : Chg (fun i => rp.ownBlock = some i) u u') (ha : ∀ i, r.ownBlock = some i → rp.ownBlock = some i ∨ u.heap.size ≤ i) : OB wq w u' D Fb B dc m rvN rpN rv r vs ps2 := by
 have h1 := h.hD; have h2 := h.hF; have h3 := h.hB
 have ho := grow_own h.gp; refine ⟨h.ext.trans hC (fun i hi e => by have := ho i e; omega), h.d.chg hC (fun e => by have := ho _ e; omega), h.res.chg hC (fun e => by have := ho _ e; omega), h.fb.chg hC (fun e => by have := ho _ e; omega), grow_away h.gv var_any hC (fun i hi hs => h.apart i hi hs), hG, fun i hi e => ?_, h1, h2, h3, Nat.le_trans h.hu hC.size⟩
 rcases ha i e with h4 | h4
 ·exact h.apart i hi h4
 ·have := grow_own h.gv i hi; omega
theorem OB.putV {wq w u : World} {D Fb B : Nat} {dc : Array Value} {m : ByteArray} {rvN rpN rv rp : Value} {vs : List FVar} {ps : List FProc} (h : OB wq w u D Fb B dc m rvN rpN rv rp vs ps) : OB wq w (u.setCell ⟨Fb, 1, none⟩ rv) D Fb B dc m rv rpN rv rp vs ps := by
 have h1 := h.hD; have h2 := h.hF; have h3 := h.hB
 have hC := chg_set (S := Fb) (Chg.refl _ u) 1 rv; exact ⟨h.ext.trans hC (fun i hi e => by omega), h.d.chg hC (by omega), h.res.chg hC (by omega), by have := h.fb.set 1 rv; exact this, h.gv.chg var_keeps hC (fun i e => by omega), h.gp.chg p0_keeps hC (fun i e => by omega), h.apart, h1, h2, h3, Nat.le_trans h.hu hC.size⟩
theorem OB.putP {wq w u : World} {D Fb B : Nat} {dc : Array Value} {m : ByteArray} {rvN rpN rv rp : Value} {vs : List FVar} {ps : List FProc} (h : OB wq w u D Fb B dc m rvN rpN rv rp vs ps) : OB wq w (u.setCell ⟨Fb, 2, none⟩ rp) D Fb B dc m rvN rp rv rp vs ps := by
 have h1 := h.hD; have h2 := h.hF; have h3 := h.hB
 have hC := chg_set (S := Fb) (Chg.refl _ u) 2 rp; exact ⟨h.ext.trans hC (fun i hi e => by omega), h.d.chg hC (by omega), h.res.chg hC (by omega), by have := h.fb.set 2 rp; exact this, h.gv.chg var_keeps hC (fun i e => by omega), h.gp.chg p0_keeps hC (fun i e => by omega), h.apart, h1, h2, h3, Nat.le_trans h.hu hC.size⟩
theorem fresh_own {g c n : Nat} {row : Value} {u : World} (hat : row.ownBlock = some g ∨ g = u.heap.size + 1) : ∀ i, (Value.slice (some ⟨g, 0, none⟩) n c).ownBlock = some i → row.ownBlock = some i ∨ u.heap.size ≤ i := fun i e => by
 have : g = i := by simpa [Value.ownBlock] using e
 subst this; rcases hat with h | h
 ·exact .inl h
 ·exact .inr (by omega)
def FaceX (M : Nat → Bool) (w : World) (x : FFace) (v : Value) : Prop := ∃ a m c d, v = .agg #[.string x.modn, .slice a x.vars.length m, .slice c x.procs.length d] ∧ AllIn 4 VarIn (hide M w) a x.vars ∧
 AllIn 6 ProcIn (hide (fun i => M i || ownB (.slice a x.vars.length m) i) w) c x.procs ∧ x.modn.size ≤ maxLen ∧ x.vars.length ≤ m ∧ m ≤ maxLen ∧ x.procs.length ≤ d ∧ d ≤ maxLen ∧ (a = none ∨ ∃ g cs, a = some ⟨g, 0, none⟩ ∧ M g = false ∧ Blk w g cs 82)
theorem FaceX.at_ {M : Nat → Bool} {w : World} {x : FFace} {v : Value} (h : FaceX M w x v) : FaceAt (hide M w) x v := by
 obtain ⟨a, m, c, d, e, h1, h2, h3, h4, h5, h6, h7, -⟩ := h
 have hK : Keeps (hide (fun i => M i || ownB (.slice a x.vars.length m) i) w) (hide M w) := keeps_hide (Nat.le_refl _) fun i hi hm => by
  simp only [Bool.or_eq_false_iff] at hm; exact ⟨hm.1, rfl⟩
 exact ⟨a, m, c, d, e, h1, h2.keeps hK fun _ _ _ => ProcIn.keeps hK, h3, h4, h5, h6, h7⟩
theorem FaceX.chg {M : Nat → Bool} {S : Nat → Prop} {w w' : World} {x : FFace} {v : Value} (h : FaceX M w x v) (hC : Chg S w w') (hS : ∀ i, S i → M i = true) : FaceX M w' x v := by
 obtain ⟨a, m, c, d, e, h1, h2, h3, h4, h5, h6, h7, h8⟩ := h; have k1 := keeps_chg (M := M) hC fun i _ e => hS i e
 have k2 := keeps_chg (M := fun i => M i || ownB (.slice a x.vars.length m) i) hC fun i _ e => by simp [hS i e]
 refine ⟨a, m, c, d, e, h1.keeps k1 fun _ _ _ => VarIn.keeps k1, h2.keeps k2 fun _ _ _ => ProcIn.keeps k2, h3, h4, h5, h6, h7, ?_⟩
 rcases h8 with h8 | ⟨g, cs, e1, e2, e3⟩
 ·exact .inl h8
 ·exact .inr ⟨g, cs, e1, e2, e3.chg hC fun hs => by rw [hS g hs] at e2; cases e2⟩
theorem FaceX.weak {M M' : Nat → Bool} {w : World} {x : FFace} {v : Value} (h : FaceX M w x v) (hM : ∀ i, M i = false → M' i = false) : FaceX M' w x v := by
 obtain ⟨a, m, c, d, e, h1, h2, h3, h4, h5, h6, h7, h8⟩ := h; have k1 : Keeps (hide M w) (hide M' w) := keeps_hide (Nat.le_refl _) fun i _ hm => ⟨hM i hm, rfl⟩
 have k2 : Keeps (hide (fun i => M i || ownB (.slice a x.vars.length m) i) w) (hide (fun i => M' i || ownB (.slice a x.vars.length m) i) w) := keeps_hide (Nat.le_refl _) fun i _ hm => by
  simp only [Bool.or_eq_false_iff] at hm ⊢; exact ⟨⟨hM i hm.1, hm.2⟩, trivial⟩
 refine ⟨a, m, c, d, e, h1.keeps k1 fun _ _ _ => VarIn.keeps k1, h2.keeps k2 fun _ _ _ => ProcIn.keeps k2, h3, h4, h5, h6, h7, ?_⟩
 rcases h8 with h8 | ⟨g, cs, e1, e2, e3⟩
 ·exact .inl h8
 ·exact .inr ⟨g, cs, e1, hM g e2, e3⟩
theorem row_blk {α : Type} {k : Nat} {E : TypeId} {V : α → Value → World → Prop} {B : Nat} {w : World} {a : Option Addr} {n m : Nat} {l : List α} (h : Grow k E V B w (.slice a n m) l) : a = none ∨ ∃ g cs, a = some ⟨g, 0, none⟩ ∧ B ≤ g ∧ Blk w g cs E := by
 obtain ⟨us, h1, h2, h3⟩ := h.ex; rcases h2.2 with ⟨e, h0⟩ | ⟨g, cap, cur, e, hB, hg, -⟩
 ·injection e with e; exact .inl e
 ·injection e with e; exact .inr ⟨g, _, e, hB, hg⟩
theorem OB.face {M : Nat → Bool} {w u : World} {D Fb B : Nat} {dc : Array Value} {m : ByteArray} {rvN rpN rv rp : Value} {vs : List FVar} {ps : List FProc} (h : OB (hide M w) w u D Fb B dc m rvN rpN rv rp vs ps) (hM : ∀ i, M i = true → i < w.heap.size) (hm : m.size ≤ 10000) {u' : World} {S : Nat → Prop} (hC : Chg S u u') (hS : ∀ i, S i → i < B) (hE : Ext w u') : FaceX M u' ⟨m, vs, ps⟩ (.agg #[.string m, rv, rp]) := by
 have hF := h.hF; have hB := h.hB
 have hgv := h.gv.chg var_keeps hC hS; have hap : ∀ i, rv.ownBlock = some i → B ≤ i := fun i e => (grow_own h.gv i e).1
 have hgp := h.gp.chg p0_keeps hC hS; have hapt := h.apart; obtain ⟨a, n, rfl, h1, h2, h3⟩ := hgv.row var_keeps var_lies; have hblk := row_blk hgv; obtain ⟨us, g1, g2, g3⟩ := hgp.ex; obtain ⟨c, d, rfl, h4, h5, -⟩ := hgp.row p0_keeps p0_lies
 have hK : Keeps (hide (below B) u') (hide M u') := keeps_hide (Nat.le_refl _) fun i hi hb => ⟨by
  cases hq : M i with
  | false => rfl
  | true => have := hM i hq; simp [below] at hb; omega, rfl⟩
 refine ⟨a, n, c, d, rfl, h3.keeps hK fun _ _ _ => varIn_keeps hK, fun j hj => ?_, small _ hm, h1, h2, h4, h5, ?_⟩
 ·rcases g2.2 with ⟨e, h0⟩ | ⟨g, cap, cur, e, hBg, hg, hc1, hc2, hc3, hc4⟩
  ·exact absurd hj (by show ¬ j < ps.length; omega)
  ·injection e with e e2 e3
   subst e; have hj' : j < us.length := by rw [g1]; exact hj
   obtain ⟨q1, q2⟩ := g3 j hj hj'
   have hne : ownB (.slice a vs.length n) g = false := by
    unfold ownB; rw [decide_eq_false_iff_not]; intro e; exact hapt g e rfl
   have hMg : M g = false := by
    cases hq : M g with
    | false => rfl
    | true => have := hM g hq; omega
   have hall : ∀ u ∈ us, u.cells.size = 6 := fun u hu => by
    obtain ⟨q, hq, rfl⟩ := List.getElem_of_mem hu; exact (g3 q (by omega) hq).2
   have hu2 := proc_keeps _ _ _ _ (keeps_chg (M := M) hE fun _ _ e => e.elim) (show OProc _ _ _ from q1)
   have hKM : Keeps (hide M w) (hide (fun i => M i || ownB (.slice a vs.length n) i) u') := keeps_hide hE.size fun i hi hm => ⟨by
    rw [hm, Bool.false_or]; unfold ownB; rw [decide_eq_false_iff_not]; intro e; have := hap i e; omega, hE.block i hi id⟩
   have hu3 := proc_keeps _ _ _ _ hKM (show OProc _ _ _ from q1); refine ⟨g, 0, rfl, by rw [hide_size]; exact (Array.getElem?_eq_some_iff.1 hg).1, ?_⟩
   refine proc_lies _ _ _ _ us[j] hu3 q2 fun i hi => ?_
   rw [hide_cell _ _ _ (by simp [hMg, hne])]
   rw [← flat_at 6 us hall j hj' i hi, ← hc4, List.getElem?_take, if_pos (by
    have : (j + 1) * 6 ≤ ps.length * 6 := Nat.mul_le_mul_right _ hj; rw [Nat.succ_mul] at this; omega)]
   rw [cell_of_row u' g _ cur _ (0, 0) hg]; simp
 ·rcases hblk with e | ⟨g, cs, e, hBg, hb⟩
  ·exact .inl e
  ·refine .inr ⟨g, cs, e, ?_, hb⟩
   cases hq : M g with
   | false => rfl
   | true => have := hM g hq; omega
theorem filt_take {α : Type} (p : α → Bool) {l : List α} {q : Nat} (h : q < l.length) : (l.take (q + 1)).filter p = (l.take q).filter p ++ (if p l[q] = true then [l[q]] else []) := by
 rw [List.take_succ_eq_append_getElem h, List.filter_append]; congr 1
 cases hp : p l[q] <;> simp [hp]
theorem filt_len {α : Type} (p : α → Bool) (l : List α) (q : Nat) : ((l.take q).filter p).length ≤ q := Nat.le_trans (List.length_filter_le _ _) (List.length_take_le q l)
set_option maxRecDepth 100000 in
set_option maxHeartbeats 8000000 in
theorem open_any {M : Nat → Bool} {w : World} {D : Nat} {m : ByteArray} {d3 d4 d5 d6 d7 d8 : Value} {a1 a2 : Option Addr} {c1 c2 : Nat} {xv : List FVar} {xp : List FProc} (hd : Blk w D #[.string m, .slice a1 xv.length c1, .slice a2 xp.length c2, d3, d4, d5, d6, d7, d8] 175) (hv : AllIn 4 VarIn w a1 xv) (hp : AllIn 6 ProcIn (hide M w) a2 xp) (hM : ∀ i, M i = true → i < w.heap.size) (hm : m.size ≤ 10000) (hvz : ∀ x ∈ xv, x.name.size ≤ 10000) (hpz : ∀ x ∈ xp, x.name.size ≤ 10000) (hnv : xv.length ≤ 1000) (hnp : xp.length ≤ 1000) :
  Calls Tryz.prog 99 #[.pointer (some ⟨D, 0, none⟩)] w fun e w' => ∃ v', e = .returned v' ∧ FaceX M w' ⟨m, xv.filter fun v => v.pub, xp.filter fun p => p.pub⟩ v' ∧ Ext w w' := by
 obtain ⟨fv, hfv⟩ : ∃ l, (xv.filter fun v => v.pub) = l := ⟨_, rfl⟩; obtain ⟨fp, hfp⟩ : ∃ l, (xp.filter fun p => p.pub) = l := ⟨_, rfl⟩; rw [hfv, hfp]; have HFV := Z_ hfv; have HFP := Z_ hfp; clear hfv hfp; have HV := Z_ hv; have HPS := Z_ hp; have HM := Z_ hM; have HVZ := Z_ hvz; have HPZ := Z_ hpz; obtain ⟨n1, hn1⟩ : ∃ n, xv.length = n := ⟨_, rfl⟩; obtain ⟨n2, hn2⟩ : ∃ n, xp.length = n := ⟨_, rfl⟩; rw [hn1] at hd hnv; rw [hn2] at hd hnp; have H1 := Z_ hn1; have H2 := Z_ hn2; have hD := hd.lt; have HD := Z_ (hd.alloc (.cells #[.string ⟨#[]⟩, .slice none 0 0, .slice none 0 0] 52)); have HE1 := Z_ ((Chg.refl (fun _ => False) w).alloc (.cells #[.string ⟨#[]⟩, .slice none 0 0, .slice none 0 0] 52)); have HR := Z_ (Blk.made w #[.string ⟨#[]⟩, .slice none 0 0, .slice none 0 0] 52); obtain ⟨dc, hdc⟩ : ∃ dc : Array Value, #[.string m, .slice a1 n1 c1, .slice a2 n2 c2, d3, d4, d5, d6, d7, d8] = dc := ⟨_, rfl⟩
 have HDC := Z_ hdc; clear hv hp hM hn1 hn2 hd hvz hpz hdc; go_enter Tryz.func99, Tryz.ntmps99
 go_upto_region 1 with (fail)
 have hsw : w.heap.size < (w.alloc (.cells #[.string ⟨#[]⟩, .slice none 0 0, .slice none 0 0] 52)).heap.size := by simp
 generalize w.alloc (.cells #[.string ⟨#[]⟩, .slice none 0 0, .slice none 0 0] 52) = w1 at *; have hc := HD.out.cell; go_upto_region 2 with (fail)
 have hL0 : OB (hide M w) w (w1.alloc (.cells #[.string m, .slice none 0 0, .slice none 0 0] 52)) D w1.heap.size (w1.heap.size + 1) dc m (.slice none 0 0) (.slice none 0 0) (.slice none 0 0) (.slice none 0 0) [] [] :=
  ⟨HE1.out.alloc _, by rw [← HDC.out]; exact HD.out.alloc _, HR.out.alloc _, Blk.made _ _ _, Grow.nil _ _ _ _ _, Grow.nil _ _ _ _ _, fun i e => (by cases e), hD, hsw, by omega, by simp⟩
 have HL := Z_ hL0; obtain ⟨Fb, hFb⟩ : ∃ Fb, w1.heap.size = Fb := ⟨_, rfl⟩; rw [hFb] at HL
 try rw [hFb]
 have hc2 := (HD.out.alloc (.cells #[.string m, .slice none 0 0, .slice none 0 0] 52)).cell; clear hc hL0 HE1 HD HR hsw; generalize w1.alloc (.cells #[.string m, .slice none 0 0, .slice none 0 0] 52) = w2 at *; clear hFb; obtain ⟨B, hB⟩ : ∃ B, Fb + 1 = B := ⟨_, rfl⟩; rw [hB] at HL; clear hB; go_wp2_with fail
 clear hc2; go_loopw [20] (fun i wr => ∃ (q : Nat) (rv : Value), q ≤ n1 ∧ i = .int .i64 (q : Nat) ∧ Hid (OB (hide M w) w wr D Fb B dc m rv (.slice none 0 0) rv (.slice none 0 0) ((xv.take q).filter fun v => v.pub) [])) (fun i _ => n1 - (intOf i).toNat)
 case atStart => exact ⟨0, _, Nat.zero_le _, rfl, HL⟩
 clear HL
 case round =>
  obtain ⟨q, rv, hq, rfl, HL⟩ := hrel; by_cases hlt : q < n1
  ·have hqi : (q : Int) < (n1 : Int) := by omega
   have hqd : decide ((q : Int) < (n1 : Int)) = true := by simpa using hqi
   have hql : q < xv.length := by rw [H1.out]; exact hlt
   obtain ⟨b, o, rfl, hb, hin⟩ := HV.out q hql; have hbl := Nat.lt_of_lt_of_le hb HL.out.ext.size; obtain ⟨l0, l1, l2, l3, lz⟩ := VarIn.ext HL.out.ext hb hin; have HOV := Z_ (filt_take (fun v : FVar => v.pub) hql); have hlv := filt_len (fun v : FVar => v.pub) xv q; have hzz := HVZ.out xv[q] (List.getElem_mem hql); generalize xv[q] = y at *; obtain ⟨vn, vp, vl, vz⟩ := y; simp only at l0 l1 l2 l3 hzz; clear hin lz; generalize ((xv.take q).filter fun v => v.pub) = fs at *; have HL6 := Z_ (HL.out.extend ((Chg.refl (fun _ => False) wr).alloc (.cells #[.string vn, .bool vp, .int .i64 vl, .int .i64 vz] 82))); have HV6 := Z_ (Blk.made wr #[.string vn, .bool vp, .int .i64 vl, .int .i64 vz] 82); obtain ⟨Vb, hVb⟩ : ∃ Vb, wr.heap.size = Vb := ⟨_, rfl⟩; rw [hVb] at HV6; go_upto_region 5 with (fail)
   try rw [hVb]
   generalize wr.alloc (.cells #[.string vn, .bool vp, .int .i64 vl, .int .i64 vz] 82) = u6 at *; clear l0 l1 l2 l3 HL hVb; have hv := HV6.out.cell; cases vp with
   | false =>
    go_wp2_with fail
    go_roundw
    case rel => exact ⟨q + 1, _, by omega, by go_num, by rw [HOV.out, if_neg (by simp), List.append_nil]; exact HL6⟩
    case measure => simp [intOf]; omega
   | true =>
    obtain ⟨ra, rc, hrow, -, -⟩ := grow_slice HL6.out.gv; subst hrow; obtain ⟨us, hu1, ho, hu3⟩ := HL6.out.gv.ex; have HO := Z_ ho; have HU9 := Z_ (And.intro hu1 hu3); have hfc := HL6.out.fb.cell; have hff := HL6.out.fb.frozen; have hfl := HL6.out.fb.lt; have hub := HL6.out.hu; obtain ⟨i0_, hi_, hz0, hz1, hz2⟩ := info_split info_var; clear ho hu1 hu3; go_wp2_with (at_builtin; refine wpList_append_lies _ rfl _ _ 49 rfl B 82 i0_ (.agg #[.string ⟨#[]⟩, .bool false, .int .i64 0, .int .i64 0]) 4 40 Tryz.underlying49 hi_ hz0 hz1 hz2 rfl (by decide) (.slice ra fs.length rc) fs.length (us.flatMap fun u => u.cells.toList) rfl (HO.out.alloc _) ⟨u6.heap.size, 0, none⟩ 1 1 [.string vn, .bool true, .int .i64 vl, .int .i64 vz] rfl rfl (by intro j z_ hj; have e : (⟨u6.heap.size, 0, none⟩ : Addr).add j = ⟨u6.heap.size, j, none⟩ := (by unfold Addr.add; split <;> simp_all); rw [e, (Blk.made u6 _ _).cell]; simpa using hj) (by intro z_ hz_; simp only [List.mem_cons, List.not_mem_nil, or_false] at hz_; rcases hz_ with rfl | rfl | rfl | rfl <;> rfl) (by decide) (by unfold maxLen; omega) (by omega) (by simp; omega) (u6.heap.size + 1) (by simp) ?_; intro g c' w7 hown hgrow hat hlt1; have HPU := Z_ (pushedG var_keeps HU9.out.1 HU9.out.2 (x := ⟨vn, true, vl, vz⟩) (v := .agg #[.string vn, .bool true, .int .i64 vl, .int .i64 vz]) ⟨rfl, hzz⟩ rfl hown hgrow hat); have HL7 := Z_ (HL6.out.pushV HPU.out.1 HPU.out.2 (fresh_own hat)); have q1 := HL7.out.fb.cell; have q1f := HL7.out.fb.frozen; have q1l := HL7.out.fb.lt; clear hown hgrow hat hfc hff hfl hv)
    have HL8 := Z_ HL7.out.putV; clear q1 q1f q1l HPU; go_roundw
    case rel => exact ⟨q + 1, _, by omega, by go_num, by rw [HOV.out, if_pos (by simp)]; exact HL8⟩
    case measure => simp [intOf]; omega
  ·obtain rfl : q = n1 := by omega
   have hqd : decide ((q : Int) < (q : Int)) = false := by simp
   have hT : xv.take q = xv := List.take_of_length_le (by rw [H1.out]; exact Nat.le_refl _); rw [hT, HFV.out] at HL; have hc := HL.out.d.cell; rw [← HDC.out] at hc; obtain ⟨wo, rfl⟩ : ∃ wo, wo = wr := ⟨_, rfl⟩; go_wp2_with fail
   clear hc; go_loopw [39] (fun i wr => ∃ (q : Nat) (rv rp : Value), q ≤ n2 ∧ i = .int .i64 (q : Nat) ∧ Hid (OB (hide M w) w wr D Fb B dc m rv rp rv rp fv ((xp.take q).filter fun p => p.pub))) (fun i _ => n2 - (intOf i).toNat)
   case atStart => exact ⟨0, _, _, Nat.zero_le _, rfl, by show Hid (OB (hide M w) w _ D Fb B dc m _ _ _ _ _ []); exact HL⟩
   clear HL
   case round =>
    obtain ⟨q, rv, rp, hq, rfl, HL⟩ := hrel; by_cases hlt : q < n2
    ·have hqi : (q : Int) < (n2 : Int) := by omega
     have hqd : decide ((q : Int) < (n2 : Int)) = true := by simpa using hqi
     have hql : q < xp.length := by rw [H2.out]; exact hlt
     obtain ⟨b, o, rfl, hb, hin⟩ := HPS.out q hql; rw [hide_size] at hb; have hbl := Nat.lt_of_lt_of_le hb HL.out.ext.size; have hin0 := hin; replace hin := ProcIn.keeps (keeps_bare M w) hin; obtain ⟨l0, l1, ⟨pa0, pc0, l2, -⟩, l3, l4, l5, lz⟩ := ProcIn.ext HL.out.ext hb hin; obtain ⟨-, -, ⟨pa, pc, m2, m2i, m2c, m2d⟩, -⟩ := hin0; have hpe : pa0 = pa ∧ pc0 = pc := by have := (HL.out.ext.cell (p := ⟨b, o + q * 6 + 2, none⟩) hb id).symm.trans l2; rw [(keeps_bare M w).2 _ _ m2] at this; cases this; exact ⟨rfl, rfl⟩
     obtain ⟨rfl, rfl⟩ := hpe; have HOV := Z_ (filt_take (fun p : FProc => p.pub) hql); have hlv := filt_len (fun p : FProc => p.pub) xp q; have hzz := HPZ.out xp[q] (List.getElem_mem hql); generalize xp[q] = y at *; obtain ⟨vn, vp, pl, vw, vg, vi⟩ := y; simp only at l0 l1 l2 l3 l4 l5 hzz m2i m2c; have HX9 := Z_ (show OProc ⟨vn, vp, pl, vw, vg, vi⟩ (.agg #[.string vn, .bool vp, .slice pa0 pl.length pc0, .int .i64 vw, .bool vg, .int .i64 vi]) (hide M w) from ⟨pa0, pc0, rfl, m2i, m2c, m2d, hzz⟩); clear hin lz m2 m2i m2c m2d; generalize ((xp.take q).filter fun p => p.pub) = fs at *; have HL6 := Z_ (HL.out.extend ((Chg.refl (fun _ => False) wr).alloc (.cells #[.string vn, .bool vp, .slice pa0 pl.length pc0, .int .i64 vw, .bool vg, .int .i64 vi] 179))); have HV6 := Z_ (Blk.made wr #[.string vn, .bool vp, .slice pa0 pl.length pc0, .int .i64 vw, .bool vg, .int .i64 vi] 179)
     obtain ⟨Vb, hVb⟩ : ∃ Vb, wr.heap.size = Vb := ⟨_, rfl⟩; rw [hVb] at HV6; go_upto_region 11 with (fail)
     try rw [hVb]
     generalize wr.alloc (.cells #[.string vn, .bool vp, .slice pa0 pl.length pc0, .int .i64 vw, .bool vg, .int .i64 vi] 179) = u6 at *; clear l0 l1 l2 l3 l4 l5 HL hVb; have hv := HV6.out.cell; cases vp with
     | false =>
      go_wp2_with fail
      go_roundw
      case rel => exact ⟨q + 1, _, _, by omega, by go_num, by rw [HOV.out, if_neg (by simp), List.append_nil]; exact HL6⟩
      case measure => simp [intOf]; omega
     | true =>
      obtain ⟨ra, rc, hrow, -, -⟩ := grow_slice HL6.out.gp; subst hrow; obtain ⟨us, hu1, ho, hu3⟩ := HL6.out.gp.ex; have HO := Z_ ho; have HU9 := Z_ (And.intro hu1 hu3); have hfc := HL6.out.fb.cell; have hff := HL6.out.fb.frozen; have hfl := HL6.out.fb.lt; have hub := HL6.out.hu; obtain ⟨i0_, hi_, hz0, hz1, hz2⟩ := info_split info_proc; clear ho hu1 hu3; go_wp2_with (at_builtin; refine wpList_append_lies _ rfl _ _ 50 rfl B 179 i0_ (.agg #[.string ⟨#[]⟩, .bool false, .slice none 0 0, .int .i64 0, .bool false, .int .i64 0]) 6 72 Tryz.underlying50 hi_ hz0 hz1 hz2 rfl (by decide) (.slice ra fs.length rc) fs.length (us.flatMap fun u => u.cells.toList) rfl (HO.out.alloc _) ⟨u6.heap.size, 0, none⟩ 1 1 [.string vn, .bool true, .slice pa0 pl.length pc0, .int .i64 vw, .bool vg, .int .i64 vi] rfl rfl (by intro j z_ hj; have e : (⟨u6.heap.size, 0, none⟩ : Addr).add j = ⟨u6.heap.size, j, none⟩ := (by unfold Addr.add; split <;> simp_all); rw [e, (Blk.made u6 _ _).cell]; simpa using hj) (by intro z_ hz_; simp only [List.mem_cons, List.not_mem_nil, or_false] at hz_; rcases hz_ with rfl | rfl | rfl | rfl | rfl | rfl <;> rfl) (by decide) (by unfold maxLen; omega) (by omega) (by simp; omega) (u6.heap.size + 1) (by simp) ?_; intro g c' w7 hown hgrow hat hlt1; have HPU := Z_ (pushedG p0_keeps HU9.out.1 HU9.out.2 (x := ⟨vn, true, pl, vw, vg, vi⟩) (v := .agg #[.string vn, .bool true, .slice pa0 pl.length pc0, .int .i64 vw, .bool vg, .int .i64 vi]) (show OProc0 (hide M w) ⟨vn, true, pl, vw, vg, vi⟩ (.agg #[.string vn, .bool true, .slice pa0 pl.length pc0, .int .i64 vw, .bool vg, .int .i64 vi]) _ from HX9.out) rfl hown hgrow hat); have HL7 := Z_ (HL6.out.pushP HPU.out.1 HPU.out.2 (fresh_own hat)); have q1 := HL7.out.fb.cell; have q1f := HL7.out.fb.frozen; have q1l := HL7.out.fb.lt; clear hown hgrow hat hfc hff hfl hv)
      have HL8 := Z_ HL7.out.putP; clear q1 q1f q1l HPU; go_roundw
      case rel => exact ⟨q + 1, _, _, by omega, by go_num, by rw [HOV.out, if_pos (by simp)]; exact HL8⟩
      case measure => simp [intOf]; omega
    ·obtain rfl : q = n2 := by omega
     have hqd : decide ((q : Int) < (q : Int)) = false := by simp
     have hT : xp.take q = xp := List.take_of_length_le (by rw [H2.out]; exact Nat.le_refl _); rw [hT, HFP.out] at HL; obtain ⟨a3, c3, hr1, -, -⟩ := grow_slice HL.out.gv; obtain ⟨a4, c4, hr2, -, -⟩ := grow_slice HL.out.gp; subst hr1 hr2; have hfc := HL.out.fb.cell; have hr := HL.out.res.cell; have hrf := HL.out.res.frozen; have hrl := HL.out.res.lt; go_wp2_with fail
     have hC1 := chg_set (S := w.heap.size) (Chg.refl _ wr) 0 (.string m); have hC2 := chg_set hC1 1 (.slice a3 fv.length c3); have hC3 := chg_set hC2 2 (.slice a4 fp.length c4); have hE9 := HL.out.ext.trans hC3 (fun i hi e => by omega); have hface := HL.out.face HM.out hm hC3 (fun i e => by have := HL.out.hF; have := HL.out.hB; omega) hE9; have HR9 := Z_ (((HL.out.res.set 0 (.string m)).set 1 (.slice a3 fv.length c3)).set 2 (.slice a4 fp.length c4)); refine ends_at rfl rfl rfl HR9.out Tryz.underlying52 rfl (by kernel_rfl) ?_
     simp only [List.setIfInBounds_toArray, List.set_cons_succ, List.set_cons_zero]; exact ⟨_, rfl, hface, hE9⟩
end ofn
end Go.Proofs.YtpcihajmcejliabGreatDoor
namespace Go.Proofs.YtpcihajmcejliabGreatDoor
open Go.RowKit Go.WideMaps Go.Maps
def labB (n : Int) : Bool := n == 0 || n == 1
def FVar.key (v : FVar) : List UInt8 := v.name.data.toList
def FProc.key (p : FProc) : List UInt8 := p.name.data.toList
end Go.Proofs.YtpcihajmcejliabGreatDoor
namespace Go.Proofs.YtpcihajmcejliabGreatDoor
open Go.RowKit
namespace face
def WordIn (w : World) (b o : Nat) (x : ByteArray) : Prop := w.cell? ⟨b, o, none⟩ = some (.string x)
def PlacePost (B : Bool) (e : Ending) : Prop := ∃ k : Int, e = .returned (.int .i64 k) ∧ decide (0 ≤ k) = B
set_option maxRecDepth 100000 in
theorem place_any (a : Option Addr) (c : Nat) (l : List ByteArray) (s : ByteArray) (w : World) (hin : AllIn 1 WordIn w a l) (hl : l.length ≤ 9223372036854775806) :
  Calls Tryz.prog 187 #[.slice a l.length c, .string s] w fun e w' => PlacePost ((l.map fun x => x.data.toList).contains s.data.toList) e ∧ w' = w := by
 generalize hB : (l.map fun x => x.data.toList).contains s.data.toList = B; have HB := Z_ hB; clear hB; obtain ⟨n, hn⟩ : ∃ n, l.length = n := ⟨_, rfl⟩; have HN := Z_ hn; rw [hn] at hl ⊢; clear hn; go_enter Tryz.func187, Tryz.ntmps187
 go_wp2_with fail
 go_loop [5] (fun i => ∃ k : Nat, k ≤ n ∧ i = .int .i64 k ∧ Hid (∀ (q : Nat) (hq : q < l.length), q < k → l[q].data.toList ≠ s.data.toList)) (fun i => n - (intOf i).toNat)
 case atStart => exact ⟨0, Nat.zero_le _, rfl, fun q hq h => by omega⟩
 case round =>
  obtain ⟨k, hk, rfl, hrel⟩ := hrel; by_cases hlt : k < n
  ·have hki : (k : Int) < (n : Int) := by omega
   have hjl : k < l.length := by rw [HN.out]; exact hlt
   obtain ⟨b, o, rfl, hb, hc⟩ := hin k hjl; unfold WordIn at hc; obtain ⟨x, hx⟩ : ∃ x, l[k] = x := ⟨_, rfl⟩; rw [hx, Nat.mul_one] at hc; have HX := Z_ hx; have HIN := Z_ hin; clear hx hin; by_cases he : x.data.toList = s.data.toList
   ·have hF : B = true := by
     rw [← HB.out, List.contains_iff_mem, List.mem_map]; exact ⟨x, by rw [← HX.out]; exact List.getElem_mem _, he⟩
    have HF := Z_ hF; have h2 : (x.data.toList == s.data.toList) = true := by simpa using he
    have h3 : (x.toList == s.toList) = true := by rw [ByteArray.toList_eq, ByteArray.toList_eq]; simpa using he
    clear he hF; go_wp2_with fail
    go_ret
    exact ⟨⟨_, rfl, by rw [HF.out]; simp⟩, rfl⟩
   ·have HE := Z_ he
    have h2 : (x.data.toList == s.data.toList) = false := by simpa using he
    have h3 : (x.toList == s.toList) = false := by rw [ByteArray.toList_eq, ByteArray.toList_eq]; simpa using he
    clear he; go_wp2_with fail
    go_round
    case rel =>
     refine ⟨k + 1, by omega, by go_num, fun q hq h => ?_⟩
     by_cases e : q = k
     ·subst e; rw [HX.out]; exact HE.out
     ·exact hrel.out q hq (by omega)
    case measure => simp [intOf]; omega
  ·obtain rfl : k = n := by omega
   have hF : B = false := by
    rw [← HB.out, Bool.eq_false_iff]; intro h; rw [List.contains_iff_mem, List.mem_map] at h; obtain ⟨x, hx, e⟩ := h; obtain ⟨q, hq, rfl⟩ := List.getElem_of_mem hx; exact hrel.out q hq (by have := HN.out; omega) e
   have HF := Z_ hF; clear hF; go_wp2_with fail
   go_ret
   exact ⟨⟨_, rfl, by rw [HF.out]; rfl⟩, rfl⟩
end face
end Go.Proofs.YtpcihajmcejliabGreatDoor
