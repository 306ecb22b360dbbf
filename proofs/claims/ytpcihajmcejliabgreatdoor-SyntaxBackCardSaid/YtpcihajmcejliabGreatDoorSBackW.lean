/- The walk of Print. The reference's Same. The walk of the law SyntaxBack: what is printed is read as the same node. -/
import Derived.Defers
import Derived.Deep.RegionHeld3
import Derived.Deep.CutBlock
import Derived.Deep.DeepCutAuto
import Derived.Deep.LoopGhost
import Derived.Deep.AppendLies
import Derived.Test.YtpcihajmcejliabGreatDoorPrtF
import Derived.Test.YtpcihajmcejliabGreatDoorSyn2
import Derived.Test.YtpcihajmcejliabGreatDoorPrtD
namespace Go.Proofs.YtpcihajmcejliabGreatDoor
open Go.RowKit
theorem results_11 {P : Program} {fn : Func} {p q : Tmp} {ty ty2 : TypeId} (h : fn.results = #[.cell p ty, .cell q ty2]) (tmps : Array Value) (w : World) {g g2 : Nat} {T T2 : TypeId} {d d2 : TypeDesc} {v v2 : Value}
  (hp : tmps.getD p undef = .pointer (some ⟨g, 0, none⟩)) (hg : Blk w g #[v] T) (hu : P.underlying ty = some d) (hd : (match d with | .struct _ | .array _ _ => true | _ => false) = false)
  (hq : tmps.getD q undef = .pointer (some ⟨g2, 0, none⟩)) (hg2 : Blk w g2 #[v2] T2) (hu2 : P.underlying ty2 = some d2) (hd2 : (match d2 with | .struct _ | .array _ _ => true | _ => false) = false) :
  (results fn tmps).run P w = .ok (.tuple #[v, v2]) w := by
 have hp' : tmps[p]?.getD undef = .pointer (some ⟨g, 0, none⟩) := by simpa using hp
 have hq' : tmps[q]?.getD undef = .pointer (some ⟨g2, 0, none⟩) := by simpa using hq
 have hl : (loadVar ty ⟨g, 0, none⟩).run P w = .ok v w := by
  have hc := hg.cell 0; simp only [List.getElem?_toArray, List.getElem?_cons_zero] at hc
  have hagg : (isAgg ty).run P w = .ok false w := by
   unfold isAgg; rw [Sem.run_bind, run_underlying hu w]; cases d <;> simp_all
  simp [loadVar, Sem.run_bind, hagg, hc]
 have hl2 : (loadVar ty2 ⟨g2, 0, none⟩).run P w = .ok v2 w := by
  have hc := hg2.cell 0; simp only [List.getElem?_toArray, List.getElem?_cons_zero] at hc
  have hagg : (isAgg ty2).run P w = .ok false w := by
   unfold isAgg; rw [Sem.run_bind, run_underlying hu2 w]; cases d2 <;> simp_all
  simp [loadVar, Sem.run_bind, hagg, hc]
 simp [results, h, hp', hq', asAddr, hl, hl2]
namespace prt
open synw
theorem then_yes2 {a b : PO} (h : (a.then b).1 = true) : a.1 = true ∧ b.1 = true ∧ (a.then b).2 = a.2 ++ b.2 := by
 unfold PO.then at h ⊢
 cases ha : a.1 with
 | false => rw [ha] at h; simp [ha] at h
 | true => rw [ha] at h; exact ⟨rfl, by simpa using h, by simp⟩
theorem mod_some (x : Nd) {pw : List ByteArray} (h : modP x = (true, pw)) : 0 < pw.length := by
 obtain ⟨k, t, m, l⟩ := x; unfold modP at h; have h1 := then_yes2 (congrArg Prod.fst h); have h2 := then_yes2 h1.2.1; have h3 := then_yes2 h2.2.1; have h4 := congrArg (fun p => p.2.length) h; simp only at h4; rw [h1.2.2, h2.2.2, h3.2.2] at h4; simp [sayP, mustP] at h4
 omega
theorem row_cells {u : World} {B : Nat} {row : Value} {xs : List ByteArray} (h : u.ownsRow B 9 1 row xs.length (xs.map fun s => .string s)) (hx : 0 < xs.length) : ∃ g c, row = .slice (some ⟨g, 0, none⟩) xs.length c ∧ xs.length ≤ c ∧ g < u.heap.size ∧ ∀ (j : Nat) x, xs[j]? = some x → u.cell? ⟨g, 0 + j, none⟩ = some (.string x) := by
 have h9 := h; obtain ⟨h1, h2⟩ := h; rcases h2 with ⟨rfl, h0⟩ | ⟨g, cap, cur, rfl, hb, hh, hc, -⟩
 ·omega
 ·refine ⟨g, cap, rfl, hc, (Array.getElem?_eq_some_iff.1 hh).1, fun j x hj => ?_⟩
  have hjl : j < xs.length := (List.getElem?_eq_some_iff.1 hj).1; rw [Nat.zero_add, h9.cellAt j (by omega), List.getElem?_map, hj]; rfl
set_option maxRecDepth 100000 in
set_option maxHeartbeats 8000000 in
theorem print_any (x : Nd) (v : Value) (w : World) (hnd : NgAt w x v) (hv : ErrVar w) (hmv : MaxVar w) (htab : Lib.TabIs Tryz.prog w "internal/strconv.uint64pow10" .u64 Lib.pow10Tab) :
  Calls Tryz.prog 27 #[v] w fun e w' => e = .returned (.tuple #[.string (printR x).1, .int .i64 (printR x).2]) ∧ Ext w w' := by
 obtain ⟨k, t, m, a, N, cc, rfl⟩ := ng_form hnd; obtain ⟨T, hT⟩ : ∃ T, printR x = T := ⟨_, rfl⟩; rw [hT]; have HT := Z_ hT; obtain ⟨B, hB⟩ : ∃ B, w.heap.size = B := ⟨_, rfl⟩; obtain ⟨w0, hw0⟩ : ∃ w0, w.alloc (.cells #[.int .i64 k, .string t, .int .i64 m, .slice a N cc] 66) = w0 := ⟨_, rfl⟩; have hb0 := Blk.made w #[.int .i64 k, .string t, .int .i64 m, .slice a N cc] 66; have hx0 := (Chg.refl (fun _ => False) w).alloc (.cells #[.int .i64 k, .string t, .int .i64 m, .slice a N cc] 66); have hs0 : w0.heap.size = B + 1 := by rw [← hw0, ← hB]; exact Array.size_push ..
 rw [hw0] at hb0 hx0; rw [hB] at hb0; have hR0 := Blk.made w0 #[.string ⟨#[]⟩] 9; obtain ⟨w1, hw1⟩ : ∃ w1, w0.alloc (.cells #[.string ⟨#[]⟩] 9) = w1 := ⟨_, rfl⟩; have hs1 : w1.heap.size = B + 2 := by rw [← hw1]; have h9 : (w0.alloc (.cells #[.string ⟨#[]⟩] 9)).heap.size = w0.heap.size + 1 := Array.size_push ..; omega
 have hb1 := hb0.alloc (.cells #[.string ⟨#[]⟩] 9); have hx1 := hx0.alloc (.cells #[.string ⟨#[]⟩] 9); rw [hw1] at hR0 hb1 hx1; rw [hs0] at hR0; have hF0 := Blk.made w1 #[.int .i64 0] 26; have hb2 := hb1.alloc (.cells #[.int .i64 0] 26); have hR2 := hR0.alloc (.cells #[.int .i64 0] 26); have hx2 := hx1.alloc (.cells #[.int .i64 0] 26); obtain ⟨w2, hw2⟩ : ∃ w2, w1.alloc (.cells #[.int .i64 0] 26) = w2 := ⟨_, rfl⟩; have hs2 : w2.heap.size = B + 3 := by rw [← hw2]; have h9 : (w1.alloc (.cells #[.int .i64 0] 26)).heap.size = w1.heap.size + 1 := Array.size_push ..; omega
 rw [hw2] at hF0 hb2 hR2 hx2; rw [hs1] at hF0; have HB := Z_ hb2; have HR := Z_ hR2; have HF := Z_ hF0; have HX := Z_ hx2; have HV := Z_ hv; have HMV := Z_ hmv; have HTAB := Z_ htab; have HND := Z_ hnd; clear hT hb0 hx0 hR0 hb1 hx1 hF0 hb2 hR2 hx2 hv hmv htab hnd; go_enter_defers Tryz.func27, Tryz.ntmps27
 go_upto_region 1 with (fail)
 try simp only [hw0, hs0, hw1, hs1, hB, hw2]
 clear hw0 hw1 hw2; have hbc := HB.out.cell; obtain ⟨w3, hw3⟩ : ∃ w3, w2.alloc (.cells #[.int .i64 0] 3) = w3 := ⟨_, rfl⟩; have hM := Blk.made w2 #[.int .i64 0] 3; have hB3 := HB.out.alloc (.cells #[.int .i64 0] 3); have hR3 := HR.out.alloc (.cells #[.int .i64 0] 3); have hF3 := HF.out.alloc (.cells #[.int .i64 0] 3); have hX3 := HX.out.alloc (.cells #[.int .i64 0] 3); rw [hw3] at hM hB3 hR3 hF3 hX3; rw [hs2] at hM; have HM := Z_ hM; have HB3 := Z_ hB3; have HR3 := Z_ hR3; have HF3 := Z_ hF3; have HX3 := Z_ hX3; clear hM hB3 hR3 hF3 hX3 hbc HB HR HF HX; have m1 := HM.out.cell; have m2 := HM.out.frozen; have m3 := HM.out.lt; go_upto_region 2 with (fail)
 try rw [hw3]
 have hM4 := HM.out.set 0 (.int .i64 0); have hB4 := HB3.out.setOther (p := ⟨B + 3, 0, none⟩) (by show B ≠ B + 3; omega) (.int .i64 0); have hR4 := HR3.out.setOther (p := ⟨B + 3, 0, none⟩) (by show B + 1 ≠ B + 3; omega) (.int .i64 0); have hF4 := HF3.out.setOther (p := ⟨B + 3, 0, none⟩) (by show B + 2 ≠ B + 3; omega) (.int .i64 0); have hX4 := HX3.out.setNew (p := ⟨B + 3, 0, none⟩) (by show w.heap.size ≤ B + 3; omega) (.int .i64 0); have HM := Z_ hM4; have HB := Z_ hB4; have HR := Z_ hR4; have HF := Z_ hF4; have HX := Z_ hX4; clear hM4 hB4 hR4 hF4 hX4 m1 m2 m3 HB3 HR3 HF3 HX3 hw3; generalize w3.setCell ⟨B + 3, 0, none⟩ (.int .i64 0) = w4 at *; have hbc := HB.out.cell
 have hW := weighg_any 16 x _ w4 (B + 3) 0 1 (fun i => decide (i = B + 3)) (ngAt_keeps (by
  refine keeps_hide (M := fun _ => false) HX.out.size fun i hi _ => ⟨by have : i ≠ B + 3 := (by omega); simpa using this, HX.out.block i hi id⟩) x _ (ngAt_keeps ⟨by rw [hide_size]; exact Nat.le_refl _, fun p u hp => by rw [hide_cell (fun _ => false) w p rfl]; exact hp⟩ x _ HND.out)) (by simp) HM.out (by decide) (by decide) (by decide)
 have HW := Z_ hW; clear hW; go_wp2_with fail
 refine HW.out.mono ?_
 rintro e w5 ⟨rfl, hC, hM5⟩; have HR5 := Z_ (HR.out.chg hC (by omega)); have HF5 := Z_ (HF.out.chg hC (by omega)); have HB5 := Z_ (HB.out.chg hC (by omega)); have HX5 := Z_ (HX.out.trans hC (fun i hi e => by omega)); clear hC hM5 HW HM HB HR HF HX hbc; cases hwe : (weighF 16 x 0).1 with
 | false =>
  have hq1 := HR5.out.cell; have hq2 := HR5.out.frozen; have hq3 := HR5.out.lt; have hs1 := HF5.out.cell; have hs2 := HF5.out.frozen; have hs3 := HF5.out.lt; go_wp2_with fail
  have hT : ((⟨#[]⟩ : ByteArray), (1 : Int)) = T := by rw [← HT.out]; unfold printR; rw [if_pos hwe]; rfl
  subst hT; have hF9 := (HF5.out.setOther (p := ⟨B + 1, 0, none⟩) (by show B + 2 ≠ B + 1; omega) (.string ⟨#[]⟩)).set 0 (.int .i64 1); have hR9 := (HR5.out.set 0 (.string ⟨#[]⟩)).setOther (p := ⟨B + 2, 0, none⟩) (by show B + 1 ≠ B + 2; omega) (.int .i64 1); have hX9 := (HX5.out.setNew (p := ⟨B + 1, 0, none⟩) (by show w.heap.size ≤ B + 1; omega) (.string ⟨#[]⟩)).setNew (p := ⟨B + 2, 0, none⟩) (by show w.heap.size ≤ B + 2; omega) (.int .i64 1); exact ⟨_, results_11 rfl _ _ rfl hR9 Tryz.underlying9 rfl rfl hF9 Tryz.underlying26 rfl, rfl, hX9⟩
 | true =>
  have hmf : ∀ (fn : Fn) (first cap : Array Value) (w : World), (Instr.makeFunc fn first cap).run Tryz.prog w = .ok (.func fn first cap) w := fun _ _ _ _ => rfl
  obtain ⟨P, hP⟩ : ∃ P, w5.heap.size = P := ⟨_, rfl⟩; obtain ⟨w6, hw6⟩ : ∃ w6, w5.alloc (.cells #[.slice none 0 0] 167) = w6 := ⟨_, rfl⟩; have hS := Blk.made w5 #[.slice none 0 0] 167; have hB6 := HB5.out.alloc (.cells #[.slice none 0 0] 167); have hR6 := HR5.out.alloc (.cells #[.slice none 0 0] 167); have hF6 := HF5.out.alloc (.cells #[.slice none 0 0] 167); have hX6 := HX5.out.alloc (.cells #[.slice none 0 0] 167); rw [hw6] at hS hB6 hR6 hF6 hX6; rw [hP] at hS; have hPB : B + 3 ≤ P := by have := HF5.out.lt; omega
  have HB6 := Z_ hB6; have HR6 := Z_ hR6; have HF6 := Z_ hF6; have HX6 := Z_ hX6; have hwl := (weigh_law 16 x 0 (by decide)).1.1 hwe; have hml := mod_len x; have hws := short_mod x ⟨_, HND.out⟩; have HPW := Z_ (show PW w w6 P (.slice none 0 0) [] from ⟨hX6, hS, ⟨rfl, .inl ⟨rfl, rfl⟩⟩, by omega⟩); have HMO := Z_ (show MoC w P x from by obtain ⟨k9, t9, m9, l9⟩ := x; exact mod_any HV.out HMV.out HTAB.out k9 t9 m9 l9); have HCA := Z_ (HMO.out _ _ _ _ HPW.out HND.out (by simp; omega)); obtain ⟨p, hp⟩ : ∃ p, modP x = p := ⟨_, rfl⟩; rw [hp] at HCA hml hws; have HPM := Z_ hp; have HWS := Z_ hws; clear hS hB6 hR6 hF6 hX6 hp HMO hws; have hbc := HB6.out.cell; go_upto_region 6 with (fail)
  try rw [hP]
  try rw [hw6]
  clear hw6 hP; go_wp2_with fail
  refine HCA.out.mono ?_
  rintro e w7 ⟨⟨row7, hF7⟩, he⟩; have hC7 := hF7.chg; have HR7 := Z_ (HR6.out.chg hC7 (fun e => by rcases e with e | e; omega; cases e)); have HF7 := Z_ (HF6.out.chg hC7 (fun e => by rcases e with e | e; omega; cases e)); have HX7 := Z_ hF7.pw.ext; have HPF := Z_ hF7; clear hC7 hF7 hbc HCA HB6 HR6 HF6 HX6; obtain ⟨pb, pw⟩ := p; cases pb with
  | false =>
   obtain rfl : e = _ := he; simp only [Bool.false_eq_true, if_false]; go_wp2_with fail
   refine leaves_cons (f := 93) (args := #[.pointer (some ⟨B + 1, 0, none⟩), .pointer (some ⟨B + 2, 0, none⟩)]) (by simp) (by simp [go_sem]) ?_
   refine (catch_print (B + 1) (B + 2) _ _ _ HR7.out HF7.out (by omega)).mono ?_
   rintro e u' w'' ⟨rfl, rfl, hRz, hFz, hCz⟩; have hT : (noText, (2 : Int)) = T := by rw [← HT.out]; unfold printR; rw [hwe, HPM.out]; rfl
   subst hT; exact ⟨_, results_11 rfl _ _ rfl hRz Tryz.underlying9 rfl rfl hFz Tryz.underlying26 rfl, rfl, HX7.out.trans hCz (fun i hi e => by omega)⟩
  | true =>
   obtain rfl : e = _ := he; simp only [if_true]; have hpos := mod_some x HPM.out; replace hml : pw.length ≤ 12 * szF x := hml; have hrow := HPF.out.pw.row; simp only [List.nil_append] at hrow; obtain ⟨g, c, rfl, hgc, hgl, hgx⟩ := row_cells hrow hpos; have hjl := join_le pw HWS.out; have hj := Tryz.strings_Join g 0 c pw ⟨#[32]⟩ w7 hgx hgl (by omega) hgc (by have h9 : (Lib.join (pw.map (·.data.toList)) (⟨#[32]⟩ : ByteArray).data.toList).length ≤ 25 * pw.length := hjl; omega); obtain ⟨J, hJ⟩ : ∃ J, (Lib.join (pw.map fun s => s.data.toList) [32]) = J := ⟨_, rfl⟩; have HJ := Z_ (show Calls Tryz.prog 95 #[.slice (some ⟨g, 0, none⟩) pw.length c, .string ⟨#[32]⟩] w7 fun e w' => e = .returned (.string ⟨J.toArray⟩) ∧ Below w7.heap.size w7 w' from by rw [← hJ]; exact hj); have hsc := HPF.out.pw.s.cell; have HJL := Z_ (show J.length ≤ 25 * pw.length from by rw [← hJ]; exact hjl)
   have HJE := Z_ hJ; obtain ⟨bs, hbs⟩ : ∃ bs : ByteArray, (⟨J.toArray⟩ : ByteArray) = bs := ⟨_, rfl⟩; have hbz : bs.size = J.length := by rw [← hbs]; exact List.size_toArray
   rw [hbs] at HJ; have HT2 := Z_ (show (if 3000 < J.length then ((noText, 1) : ByteArray × Int) else (bs, 0)) = T by rw [← HT.out, ← hbs]; unfold printR; rw [hwe, HPM.out, HJE.out]; rfl); clear hj hjl hgx hrow hJ hbs; go_wp2_with fail
   refine HJ.out.mono ?_
   rintro e w8 ⟨rfl, hbl⟩; have hE8 : Ext w7 w8 := Below.toExt hbl; have hR8 := HR7.out.ext hE8; have hF8 := HF7.out.ext hE8; have hX8 := HX7.out.ext hE8; have hq1 := hR8.cell; have hq2 := hR8.frozen; have hq3 := hR8.lt; have hR9 := hR8.set 0 (.string bs); have hF9 := hF8.setOther (p := ⟨B + 1, 0, none⟩) (by show B + 2 ≠ B + 1; omega) (.string bs); have hX9 := hX8.setNew (p := ⟨B + 1, 0, none⟩) (by show w.heap.size ≤ B + 1; omega) (.string bs); have HR9 := Z_ hR9; have HF9 := Z_ hF9; have HX9 := Z_ hX9; clear hR8 hF8 hX8 hR9 hF9 hX9 hbl hE8 HJ; by_cases hbig : 3000 < J.length
   ·have hT := HT2.out
    rw [if_pos hbig] at hT; subst hT; have hbi : (3000 : Int) < (bs.size : Int) := by omega
    have hbd : decide ((3000 : Int) < (bs.size : Int)) = true := by simpa using hbi
    go_upto_region 8 with (fail)
    clear hq1 hq2 hq3; generalize w8.setCell ⟨B + 1, 0, none⟩ (.string bs) = w9 at *; have hq1 := HR9.out.cell; have hq2 := HR9.out.frozen; have hq3 := HR9.out.lt; have hs1 := HF9.out.cell; have hs2 := HF9.out.frozen; have hs3 := HF9.out.lt; go_wp2_with fail
    refine leaves_cons (f := 93) (args := #[.pointer (some ⟨B + 1, 0, none⟩), .pointer (some ⟨B + 2, 0, none⟩)]) (by simp) (by simp [go_sem]) ?_
    refine (idle_print (B + 1) (B + 2) _).mono ?_
    rintro e u' w'' ⟨rfl, rfl, rfl⟩; have hFz := (HF9.out.setOther (p := ⟨B + 1, 0, none⟩) (by show B + 2 ≠ B + 1; omega) (.string ⟨#[]⟩)).set 0 (.int .i64 1); have hRz := (HR9.out.set 0 (.string ⟨#[]⟩)).setOther (p := ⟨B + 2, 0, none⟩) (by show B + 1 ≠ B + 2; omega) (.int .i64 1); have hXz := (HX9.out.setNew (p := ⟨B + 1, 0, none⟩) (by show w.heap.size ≤ B + 1; omega) (.string ⟨#[]⟩)).setNew (p := ⟨B + 2, 0, none⟩) (by show w.heap.size ≤ B + 2; omega) (.int .i64 1); exact ⟨_, results_11 rfl _ _ rfl hRz Tryz.underlying9 rfl rfl hFz Tryz.underlying26 rfl, rfl, hXz⟩
   ·have hT := HT2.out
    rw [if_neg hbig] at hT; subst hT; have hbi : ¬ (3000 : Int) < (bs.size : Int) := by omega
    have hbd : decide ((3000 : Int) < (bs.size : Int)) = false := by simpa using hbi
    go_upto_region 8 with (fail)
    clear hq1 hq2 hq3; generalize w8.setCell ⟨B + 1, 0, none⟩ (.string bs) = w9 at *; have hq1 := HR9.out.cell; have hq2 := HR9.out.frozen; have hq3 := HR9.out.lt; have hs1 := HF9.out.cell; have hs2 := HF9.out.frozen; have hs3 := HF9.out.lt; go_wp2_with fail
    refine leaves_cons (f := 93) (args := #[.pointer (some ⟨B + 1, 0, none⟩), .pointer (some ⟨B + 2, 0, none⟩)]) (by simp) (by simp [go_sem]) ?_
    refine (idle_print (B + 1) (B + 2) _).mono ?_
    rintro e u' w'' ⟨rfl, rfl, rfl⟩; have hFz := (HF9.out.setOther (p := ⟨B + 1, 0, none⟩) (by show B + 2 ≠ B + 1; omega) (.string bs)).set 0 (.int .i64 0); have hRz := (HR9.out.set 0 (.string bs)).setOther (p := ⟨B + 2, 0, none⟩) (by show B + 1 ≠ B + 2; omega) (.int .i64 0); have hXz := (HX9.out.setNew (p := ⟨B + 1, 0, none⟩) (by show w.heap.size ≤ B + 1; omega) (.string bs)).setNew (p := ⟨B + 2, 0, none⟩) (by show w.heap.size ≤ B + 2; omega) (.int .i64 0); exact ⟨_, results_11 rfl _ _ rfl hRz Tryz.underlying9 rfl rfl hFz Tryz.underlying26 rfl, rfl, hXz⟩
end prt
end Go.Proofs.YtpcihajmcejliabGreatDoor
namespace Go.Proofs.YtpcihajmcejliabGreatDoor
open Go.RowKit
namespace synr
open synw
set_option maxRecDepth 100000 in
set_option maxHeartbeats 4000000 in
theorem same_any : ∀ (x : Nd) (v1 v2 : Value) (w : World) (H1 H2 : Nat → Bool), NdAt (hide H1 w) x v1 → NdAt (hide H2 w) x v2 →
  Calls Tryz.prog 26 #[v1, v2] w fun e w' => e = .returned (.bool true) ∧ Ext w w' := by
 refine nd_ind fun k t n l ih v1 v2 w H1 H2 hx hy => ?_
 rw [ndAt_mk] at hx hy; obtain ⟨a, cc, rfl, hx1, hx2, hx3, hx4⟩ := hx; obtain ⟨a', cc', rfl, hy1, hy2, hy3, hy4⟩ := hy; obtain ⟨N, hN⟩ : ∃ N, l.length = N := ⟨_, rfl⟩; have hNm : N ≤ 9223372036854775807 := by unfold maxLen at hx2; omega
 have HN := Z_ hN; rw [hN]; have HIH := Z_ ih; have HI := Z_ (fun (u : World) (hE : Ext w u) => hx4.keeps (keeps_chg hE fun i _ e => e.elim) fun b o y => ndIn_keeps (keeps_chg hE fun i _ e => e.elim) b o y); have HJ := Z_ (fun (u : World) (hE : Ext w u) => hy4.keeps (keeps_chg hE fun i _ e => e.elim) fun b o y => ndIn_keeps (keeps_chg hE fun i _ e => e.elim) b o y); have hE1 := ((Chg.refl (fun _ => False) w).alloc (.cells #[.int .i64 k, .string t, .int .i64 n, .slice a N cc] 66)).alloc (.cells #[.int .i64 k, .string t, .int .i64 n, .slice a' N cc'] 66); have HK := Z_ ((Blk.made w #[.int .i64 k, .string t, .int .i64 n, .slice a N cc] 66).alloc (.cells #[.int .i64 k, .string t, .int .i64 n, .slice a' N cc'] 66)); have HL := Z_ (Blk.made2 w (.cells #[.int .i64 k, .string t, .int .i64 n, .slice a N cc] 66) #[.int .i64 k, .string t, .int .i64 n, .slice a' N cc'] 66)
 have HE1 := Z_ hE1; obtain ⟨P, hP⟩ : ∃ P, w.heap.size = P := ⟨_, rfl⟩; rw [hP] at HK HL; have hPP : P ≠ P + 1 := by omega
 have ht : (t.toList == t.toList) = true := by simp
 clear hx4 hy4 hN ih hE1; go_enter Tryz.func26, Tryz.ntmps26
 go_upto_region 1 with (fail)
 generalize (w.alloc (.cells #[.int .i64 k, .string t, .int .i64 n, .slice a N cc] 66)).alloc (.cells #[.int .i64 k, .string t, .int .i64 n, .slice a' N cc'] 66) = w1 at *; have hk := HK.out.cell; have hl := HL.out.cell; go_wp2_with fail
 clear hk hl; go_loopw [5] (fun i wr => ∃ q : Nat, q ≤ N ∧ i = .int .i64 q ∧ Hid (Ext w wr) ∧ Hid (Blk wr P #[.int .i64 k, .string t, .int .i64 n, .slice a N cc] 66) ∧ Hid (Blk wr (P + 1) #[.int .i64 k, .string t, .int .i64 n, .slice a' N cc'] 66)) (fun i _ => N - (intOf i).toNat)
 case atStart => exact ⟨0, Nat.zero_le _, rfl, HE1, HK, HL⟩
 clear HE1 HK HL
 case round =>
  obtain ⟨q, hq, rfl, HE, HK, HL⟩ := hrel; have hk := HK.out.cell; have hl := HL.out.cell; by_cases hlt : q < N
  ·have hql : q < l.length := by rw [HN.out]; exact hlt
   have hqi : (q : Int) < (N : Int) := by omega
   have hqd : decide ((q : Int) < (N : Int)) = true := by simpa using hqi
   obtain ⟨b, o, rfl, hb, u, hu, hus, hcl⟩ := HI.out wr HE.out q hql; obtain ⟨b', o', rfl, hb', u', hu', hus', hcl'⟩ := HJ.out wr HE.out q hql; rw [hide_size] at hb hb'; obtain ⟨k1, t1, n1, a1, l1, c1, rfl⟩ := nd_form hu; obtain ⟨k2, t2, n2, a2, l2, c2, rfl⟩ := nd_form hu'; have p0 : wr.cell? ⟨b, o + q * 4, none⟩ = some (.int .i64 k1) := (keeps_bare H1 wr).2 _ _ ((hcl 0 (by decide)).trans rfl); have p1 : wr.cell? ⟨b, o + q * 4 + 1, none⟩ = some (.string t1) := (keeps_bare H1 wr).2 _ _ ((hcl 1 (by decide)).trans rfl); have p2 : wr.cell? ⟨b, o + q * 4 + 2, none⟩ = some (.int .i64 n1) := (keeps_bare H1 wr).2 _ _ ((hcl 2 (by decide)).trans rfl); have p3 : wr.cell? ⟨b, o + q * 4 + 3, none⟩ = some (.slice a1 l1 c1) := (keeps_bare H1 wr).2 _ _ ((hcl 3 (by decide)).trans rfl); have r0 : wr.cell? ⟨b', o' + q * 4, none⟩ = some (.int .i64 k2) := (keeps_bare H2 wr).2 _ _ ((hcl' 0 (by decide)).trans rfl)
   have r1 : wr.cell? ⟨b', o' + q * 4 + 1, none⟩ = some (.string t2) := (keeps_bare H2 wr).2 _ _ ((hcl' 1 (by decide)).trans rfl); have r2 : wr.cell? ⟨b', o' + q * 4 + 2, none⟩ = some (.int .i64 n2) := (keeps_bare H2 wr).2 _ _ ((hcl' 2 (by decide)).trans rfl); have r3 : wr.cell? ⟨b', o' + q * 4 + 3, none⟩ = some (.slice a2 l2 c2) := (keeps_bare H2 wr).2 _ _ ((hcl' 3 (by decide)).trans rfl); have HC := Z_ (fun (w' : World) (hE : Ext wr w') => HIH.out l[q] (List.getElem_mem hql) _ _ w' H1 H2 (ndAt_keeps (keeps_chg hE fun _ _ h => h.elim) _ _ hu) (ndAt_keeps (keeps_chg hE fun _ _ h => h.elim) _ _ hu')); have k3 : wr.cell? ⟨P, 3, none⟩ = some (.slice (some ⟨b, o, none⟩) N cc) := (hk 3).trans rfl; have l3 : wr.cell? ⟨P + 1, 3, none⟩ = some (.slice (some ⟨b', o', none⟩) N cc') := (hl 3).trans rfl; have hPl := HK.out.lt; have hPl2 := HL.out.lt; have HKE := Z_ (fun (u : World) (hE : Ext wr u) => (⟨hE, (hE.cell (p := ⟨P, 3, none⟩) hPl id).trans k3, (hE.cell (p := ⟨P + 1, 3, none⟩) hPl2 id).trans l3, (hE.cell (p := ⟨b, o + q * 4, none⟩) hb id).trans p0, (hE.cell (p := ⟨b, o + q * 4 + 1, none⟩) hb id).trans p1, (hE.cell (p := ⟨b, o + q * 4 + 2, none⟩) hb id).trans p2, (hE.cell (p := ⟨b, o + q * 4 + 3, none⟩) hb id).trans p3, (hE.cell (p := ⟨b', o' + q * 4, none⟩) hb' id).trans r0, (hE.cell (p := ⟨b', o' + q * 4 + 1, none⟩) hb' id).trans r1, (hE.cell (p := ⟨b', o' + q * 4 + 2, none⟩) hb' id).trans r2, (hE.cell (p := ⟨b', o' + q * 4 + 3, none⟩) hb' id).trans r3⟩ : Ext wr u ∧ u.cell? ⟨P, 3, none⟩ = some (.slice (some ⟨b, o, none⟩) N cc) ∧ u.cell? ⟨P + 1, 3, none⟩ = some (.slice (some ⟨b', o', none⟩) N cc') ∧ u.cell? ⟨b, o + q * 4, none⟩ = some (.int .i64 k1) ∧ u.cell? ⟨b, o + q * 4 + 1, none⟩ = some (.string t1) ∧ u.cell? ⟨b, o + q * 4 + 2, none⟩ = some (.int .i64 n1) ∧ u.cell? ⟨b, o + q * 4 + 3, none⟩ = some (.slice a1 l1 c1) ∧ u.cell? ⟨b', o' + q * 4, none⟩ = some (.int .i64 k2) ∧ u.cell? ⟨b', o' + q * 4 + 1, none⟩ = some (.string t2) ∧ u.cell? ⟨b', o' + q * 4 + 2, none⟩ = some (.int .i64 n2) ∧ u.cell? ⟨b', o' + q * 4 + 3, none⟩ = some (.slice a2 l2 c2)))
   clear hu hu' hcl hcl' hus hus'; go_wp2_with fail
   go_region_held3 (fun u => Ext wr u ∧ u.cell? ⟨P, 3, none⟩ = some (.slice (some ⟨b, o, none⟩) N cc) ∧ u.cell? ⟨P + 1, 3, none⟩ = some (.slice (some ⟨b', o', none⟩) N cc') ∧ u.cell? ⟨b, o + q * 4, none⟩ = some (.int .i64 k1) ∧ u.cell? ⟨b, o + q * 4 + 1, none⟩ = some (.string t1) ∧ u.cell? ⟨b, o + q * 4 + 2, none⟩ = some (.int .i64 n1) ∧ u.cell? ⟨b, o + q * 4 + 3, none⟩ = some (.slice a1 l1 c1) ∧ u.cell? ⟨b', o' + q * 4, none⟩ = some (.int .i64 k2) ∧ u.cell? ⟨b', o' + q * 4 + 1, none⟩ = some (.string t2) ∧ u.cell? ⟨b', o' + q * 4 + 2, none⟩ = some (.int .i64 n2) ∧ u.cell? ⟨b', o' + q * 4 + 3, none⟩ = some (.slice a2 l2 c2))
    (first | exact HKE.out _ (Chg.refl _ _) | exact HKE.out _ ((Chg.refl _ _).drew) | exact HKE.out _ (by assumption))
    ((go_at_call 26; refine (HC.out _ (by first | exact Chg.refl _ _ | exact (Chg.refl _ _).drew)).mono ?_; rintro e w' ⟨rfl, hE2⟩; have hE3 : Ext wr w' := (Chg.refl _ wr).drew.ext hE2))
   rename_i hH
   clear hH; have HE9 := Z_ (HE.out.ext hE3); have HK9 := Z_ (HK.out.ext hE3); have HL9 := Z_ (HL.out.ext hE3); clear hE2 hE3 HE HK HL hk hl HKE HC p0 p1 p2 p3 r0 r1 r2 r3 k3 l3; go_wp2_with fail
   go_roundw
   case rel => exact ⟨q + 1, by omega, by go_num, HE9, HK9, HL9⟩
   case measure => simp [intOf]; omega
  ·obtain rfl : q = N := by omega
   have hqd : decide ((q : Int) < (q : Int)) = false := by simp
   go_wp2_with fail
   go_ret
   exact ⟨rfl, HE.out⟩
end synr
end Go.Proofs.YtpcihajmcejliabGreatDoor
namespace Go.Proofs.YtpcihajmcejliabGreatDoor
open Go.RowKit
namespace syntaxBack
open synw synr prt
theorem nd_of_ng {w w2 : World} : ∀ (x : Nd) (v v2 : Value), NgAt w x v → NdAt w2 x v2 → NdAt w x v := by
 refine nd_ind fun k t m l ih v v2 h h2 => ?_
 rw [ngAt_mk] at h; rw [ndAt_mk] at h2 ⊢; obtain ⟨a, c, rfl, g1, g2, -, g4⟩ := h; obtain ⟨a2, c2, -, -, -, ht, f4⟩ := h2; refine ⟨a, c, rfl, g1, g2, ht, fun j hj => ?_⟩
 obtain ⟨b, o, ea, hb, u, hu, hs, hc⟩ := g4 j hj; obtain ⟨b2, o2, -, -, u2, hu2, -⟩ := f4 j hj; exact ⟨b, o, ea, hb, u, ih _ (List.getElem_mem hj) _ _ hu hu2, hs, hc⟩
theorem hide_no (w : World) : Keeps w (hide (fun _ => false) w) := ⟨by rw [hide_size]; exact Nat.le_refl _, fun p u hp => by rw [hide_cell (fun _ => false) w p rfl]; exact hp⟩
theorem ng_ext {w w' : World} {x : Nd} {v : Value} (h : NgAt w x v) (hE : Ext w w') : NgAt w' x v := ngAt_keeps ⟨hE.size, fun p u hp => by
 have hb : p.block < w.heap.size := by
  rcases Nat.lt_or_ge p.block w.heap.size with h9 | h9
  ·exact h9
  ·exfalso
   have : w.heap[p.block]? = none := Array.getElem?_eq_none (by omega); simp [World.cell?, this] at hp
 rw [hE.cell hb id]; exact hp⟩ x v h
set_option maxRecDepth 100000 in
set_option maxHeartbeats 4000000 in
theorem walk (x : Nd) (v : Value) (w : World) (hnd : NgAt w x v) (hv : ErrVar w) (hmv : MaxVar w) (htab : Lib.TabIs Tryz.prog w "internal/strconv.uint64pow10" .u64 Lib.pow10Tab) :
  Calls Tryz.prog 13 #[v] w fun e w' => e = .returned (.bool true) ∧ Ext w w' := by
 obtain ⟨k, t, m, a, N, cc, rfl⟩ := ng_form hnd; have hr := ng_rng x _ hnd; obtain ⟨Q, hQ⟩ : ∃ Q, printR x = Q := ⟨_, rfl⟩; have hback := fun h => print_back x hr h
 have hno : (printR x).2 ≠ 0 → (printR x).1 = noText := by
  unfold printR
  repeat' split
  all_goals first | (intro _; rfl) | (intro h; exact absurd rfl h)
 have hX := (Chg.refl (fun _ => False) w).alloc (.cells #[.int .i64 k, .string t, .int .i64 m, .slice a N cc] 66); have hA := Blk.made w #[.int .i64 k, .string t, .int .i64 m, .slice a N cc] 66; have hC := print_any x _ _ (ng_ext hnd hX) (hv.ext hX) (hmv.ext hX) (tab_ext htab hX)
 have hsz : (printR x).1.size ≤ 9223372036854775807 := by
  unfold printR
  repeat' split
  all_goals first | exact (show (0 : Nat) ≤ _ by decide) | skip
  rename_i h9
  show (Lib.join _ _).toArray.size ≤ _
  rw [List.size_toArray]; omega
 rw [hQ] at hback hno hC hsz; obtain ⟨s, c⟩ := Q; have HX := Z_ hX; have HA := Z_ hA; have HC := Z_ hC; have HN := Z_ (ng_ext hnd hX); have HB := Z_ (show c = 0 → parseR s = (x, 0, 0) from hback); have HNO := Z_ (show c ≠ 0 → s = noText from hno); have HV := Z_ (hv.ext hX); have HM := Z_ (hmv.ext hX); have HS := Z_ (show s.size ≤ 9223372036854775807 from hsz); obtain ⟨P, hP⟩ : ∃ P, w.heap.size = P := ⟨_, rfl⟩; rw [hP] at HA; clear hnd hv hmv htab hr hQ hback hno hX hA hC hsz; go_enter Tryz.func13, Tryz.ntmps13
 go_upto_region 1 with (fail)
 try rw [hP]
 generalize w.alloc (.cells #[.int .i64 k, .string t, .int .i64 m, .slice a N cc] 66) = w1 at *; clear hP; have q1 := HA.out.cell; go_wp2_with fail
 refine HC.out.mono ?_
 rintro e w2 ⟨rfl, hE2⟩; have HA2 := Z_ (HA.out.ext hE2); have HN2 := Z_ (ng_ext HN.out hE2); have HX2 := Z_ (HX.out.ext hE2); have HV2 := Z_ (HV.out.ext hE2); have HM2 := Z_ (HM.out.ext hE2); clear q1 HA HN HX hE2 HC HV HM; by_cases hc : c = 0
 ·subst hc
  have HP := Z_ (HB.out rfl); clear HB HNO; go_upto_region 4 with (fail)
  have CP := Z_ (parse_any s w2 HS.out HV2.out HM2.out); rw [HP.out] at CP; go_wp2_with fail
  refine CP.out.mono ?_
  rintro e w3 ⟨hE3, v3, rfl, hn3⟩; replace hn3 : NdAt w3 x v3 := hn3; obtain ⟨k3, t3, m3, a3, l3, c3, rfl⟩ := nd_form hn3; have hX3 := ((Chg.refl (fun _ => False) w3).alloc (.cells #[.int .i64 k3, .string t3, .int .i64 m3, .slice a3 l3 c3] 66)).alloc (.cells #[.int .i64 0, .int .i64 0] 68); have hE4 := hE3.ext hX3; have HN4 := Z_ (ng_ext HN2.out hE4); have HD4 := Z_ (ndAt_keeps (keeps_chg (M := fun _ => false) hX3 (fun i _ e => e.elim)) x _ (ndAt_keeps (hide_no _) _ _ hn3)); have HG4 := Z_ (ndAt_keeps (hide_no _) _ _ (nd_of_ng x _ _ (ng_ext HN2.out hE4) hn3)); have HA4 := Z_ (HA2.out.ext hE4); have HX4 := Z_ (HX2.out.ext hE4); have HB4 := Z_ ((Blk.made w3 #[.int .i64 k3, .string t3, .int .i64 m3, .slice a3 l3 c3] 66).alloc (.cells #[.int .i64 0, .int .i64 0] 68)); have HF4 := Z_ (Blk.made2 w3 (.cells #[.int .i64 k3, .string t3, .int .i64 m3, .slice a3 l3 c3] 66) #[.int .i64 0, .int .i64 0] 68)
  obtain ⟨R, hR⟩ : ∃ R, w3.heap.size = R := ⟨_, rfl⟩; rw [hR] at HB4 HF4; clear hE3 hX3 hE4 hn3 HN2 HA2 HX2 HV2 HM2 CP; go_upto_region 5 with (fail)
  try rw [hR]
  generalize (w3.alloc (.cells #[.int .i64 k3, .string t3, .int .i64 m3, .slice a3 l3 c3] 66)).alloc (.cells #[.int .i64 0, .int .i64 0] 68) = u3 at *; clear hR; have q1 := HA4.out.cell; have q2 := HB4.out.cell; have q3 := HF4.out.cell; have CS := Z_ (same_any x _ _ u3 _ _ HG4.out HD4.out); go_wp2_with fail
  refine CS.out.mono ?_
  rintro e w5 ⟨rfl, hE5⟩; go_wp2_with fail
  go_ret
  exact ⟨rfl, HX4.out.ext hE5⟩
 ·have hs := HNO.out hc
  obtain rfl : s = ⟨#[]⟩ := hs; have hcn : (c != 0) = true := by simpa using hc
  clear HB HNO; go_wp2_with fail
  go_ret
  exact ⟨rfl, HX2.out⟩
end syntaxBack
end Go.Proofs.YtpcihajmcejliabGreatDoor
