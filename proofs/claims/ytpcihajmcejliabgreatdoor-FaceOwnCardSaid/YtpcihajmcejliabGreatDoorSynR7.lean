/- The reference's reader: statements. -/
import Derived.Test.YtpcihajmcejliabGreatDoorSynR6
namespace Go.Proofs.YtpcihajmcejliabGreatDoor
open Go.RowKit
namespace synr
open synw
def MoreN (W w0 : World) (S A N X Y : Nat) (l : List Tk) (b : Bool) (kind : Int) (text : ByteArray) (num : Int) (row : Value) (acc : List Nd) (x y : Nd) (vx vy : Value) (tell : Bool) : List Value → World → Prop
 | [], u => RBld W w0 u S A N l b kind text num row row acc ∧ Kid S N X row u x vx ∧ Kid S N Y row u y vy
 | [v], u => ∃ g c, v = .agg #[.int .i64 kind, .string text, .int .i64 num, .slice (some ⟨g, 0, none⟩) (acc.length + 1) c] ∧ RBld W w0 u S A N l b kind text num row (.slice (some ⟨g, 0, none⟩) (acc.length + 1) c) (acc ++ [x]) ∧ Kid S N Y (.slice (some ⟨g, 0, none⟩) (acc.length + 1) c) u y vy
 | [_, v], u => ∃ g m c, v = .agg #[.int .i64 kind, .string text, .int .i64 num, .slice (some ⟨g, 0, none⟩) m c] ∧ RBld W w0 u S A N l b kind text num row (.slice (some ⟨g, 0, none⟩) m c) (acc ++ [x] ++ [y])
 | [_, _, _], u => match tell with
  | false => ∃ g m c, RBld W w0 u S A N l b kind text num (.slice (some ⟨g, 0, none⟩) m c) (.slice (some ⟨g, 0, none⟩) m c) (acc ++ [x] ++ [y])
  | true => ∃ g m c w8, u = ((((w8.setCell ⟨A, 0, none⟩ (.int .i64 kind)).setCell ⟨A, 1, none⟩ (.string text)).setCell ⟨A, 2, none⟩ (.int .i64 num)).setCell ⟨A, 3, none⟩ (.slice (some ⟨g, 0, none⟩) m c)) ∧ RBld W w0 w8 S A N l b kind text num row (.slice (some ⟨g, 0, none⟩) m c) (acc ++ [x] ++ [y])
 | _, _ => False
theorem MoreN.kid {W w0 u : World} {S A N X Y : Nat} {l : List Tk} {b : Bool} {kind num : Int} {text : ByteArray} {row vx vy : Value} {acc : List Nd} {x y : Nd} {tell : Bool} {vs : List Value} (h : MoreN W w0 S A N X Y l b kind text num row acc x y vx vy tell vs u) (hv : vs.length ≤ 1) : Blk u Y vy.cells 66 := by
 match vs, hv, h with
 | [], _, h => exact h.2.2.nd
 | [_], _, ⟨_, _, _, _, h⟩ => exact h.nd
theorem more_one {W w0 u u2 : World} {S A N X Y : Nat} {l : List Tk} {b : Bool} {kind num : Int} {text : ByteArray} {row vx vy : Value} {acc : List Nd} {x y : Nd} {tell : Bool} {g c : Nat} (h : MoreN W w0 S A N X Y l b kind text num row acc x y vx vy tell [] u)
  (hG : Grow 4 66 VNd (N + 1) u2 (.slice (some ⟨g, 0, none⟩) (acc.length + 1) c) (acc ++ [x])) (hC : Chg (fun i => row.ownBlock = some i) u u2) (hg : row.ownBlock = some g ∨ u.heap.size ≤ g) :
  MoreN W w0 S A N X Y l b kind text num row acc x y vx vy tell [.agg #[.int .i64 kind, .string text, .int .i64 num, .slice (some ⟨g, 0, none⟩) (acc.length + 1) c]] u2 := by
 obtain ⟨h1, h2, h3⟩ := h; exact ⟨g, c, rfl, h1.more hG hC, h3.more hC hg (fun i e => (h1.own i e).1)⟩
theorem more_two {W w0 u u2 : World} {S A N X Y : Nat} {l : List Tk} {b : Bool} {kind num : Int} {text : ByteArray} {row vx vy v0 row1 : Value} {acc : List Nd} {x y : Nd} {tell : Bool} {g2 m2 c2 : Nat} (h : MoreN W w0 S A N X Y l b kind text num row acc x y vx vy tell [.agg #[.int .i64 kind, .string text, .int .i64 num, row1]] u)
  (hG : Grow 4 66 VNd (N + 1) u2 (.slice (some ⟨g2, 0, none⟩) m2 c2) (acc ++ [x] ++ [y])) (hC : Chg (fun i => row1.ownBlock = some i) u u2) :
  MoreN W w0 S A N X Y l b kind text num row acc x y vx vy tell [v0, .agg #[.int .i64 kind, .string text, .int .i64 num, (.slice (some ⟨g2, 0, none⟩) m2 c2)]] u2 := by
 obtain ⟨g, c, e, h1, h3⟩ := h; obtain rfl : row1 = .slice (some ⟨g, 0, none⟩) (acc.length + 1) c := by simpa using e
 exact ⟨g2, m2, c2, rfl, h1.more hG hC⟩
theorem more_put {W w0 u : World} {S A N X Y : Nat} {l : List Tk} {b : Bool} {kind num : Int} {text : ByteArray} {row vx vy v0 z : Value} {acc : List Nd} {x y : Nd} {g2 m2 c2 : Nat} (h : MoreN W w0 S A N X Y l b kind text num row acc x y vx vy false [v0, .agg #[.int .i64 kind, .string text, .int .i64 num, (.slice (some ⟨g2, 0, none⟩) m2 c2)]] u) :
  MoreN W w0 S A N X Y l b kind text num row acc x y vx vy false [v0, .agg #[.int .i64 kind, .string text, .int .i64 num, (.slice (some ⟨g2, 0, none⟩) m2 c2)], z] ((((u.setCell ⟨N, 0, none⟩ (.int .i64 kind)).setCell ⟨N, 1, none⟩ (.string text)).setCell ⟨N, 2, none⟩ (.int .i64 num)).setCell ⟨N, 3, none⟩ (.slice (some ⟨g2, 0, none⟩) m2 c2)) := by
 obtain ⟨g, m, c, e, h1⟩ := h; obtain ⟨rfl, rfl, rfl⟩ : g2 = g ∧ m2 = m ∧ c2 = c := by simpa using e
 exact ⟨g2, m2, c2, h1.put⟩
theorem more_tell {W w0 u : World} {S A N X Y : Nat} {l : List Tk} {b : Bool} {kind num : Int} {text : ByteArray} {row vx vy v0 z : Value} {acc : List Nd} {x y : Nd} {g2 m2 c2 : Nat} (h : MoreN W w0 S A N X Y l b kind text num row acc x y vx vy true [v0, .agg #[.int .i64 kind, .string text, .int .i64 num, (.slice (some ⟨g2, 0, none⟩) m2 c2)]] u) :
  MoreN W w0 S A N X Y l b kind text num row acc x y vx vy true [v0, .agg #[.int .i64 kind, .string text, .int .i64 num, (.slice (some ⟨g2, 0, none⟩) m2 c2)], z] ((((u.setCell ⟨A, 0, none⟩ (.int .i64 kind)).setCell ⟨A, 1, none⟩ (.string text)).setCell ⟨A, 2, none⟩ (.int .i64 num)).setCell ⟨A, 3, none⟩ (.slice (some ⟨g2, 0, none⟩) m2 c2)) := by
 obtain ⟨g, m, c, e, h1⟩ := h; obtain ⟨rfl, rfl, rfl⟩ : g2 = g ∧ m2 = m ∧ c2 = c := by simpa using e
 exact ⟨g2, m2, c2, u, rfl, h1⟩
theorem isB_cons {t : Tk} {r : List Tk} (h : ¬ t.kind = 2) (s : ByteArray) : isB (t :: r) [s] = decide (t.text = s) := by simp [isB, h]
theorem isB_cons2 {t : Tk} {r : List Tk} (h : ¬ t.kind = 2) (s q : ByteArray) : isB (t :: r) [s, q] = (decide (t.text = s) || decide (t.text = q)) := by simp [isB, h]
theorem stat_ref (n : Nat) (l : List Tk) : prs (n + 1) .stat l = (if isB l [sIf] = true then (prs n .asked l.tail).bind fun x l => (prs n .block l).bind fun b l => if isB l [sElse] = true then (prs n .block l.tail).bind fun c l => .got (.mk 10 noText 0 [x, b, c]) l else .got (.mk 10 noText 0 [x, b]) l else if isB l [sWhile] = true then (prs n .asked l.tail).bind fun x l => (prs n .block l).bind fun b l => .got (.mk 11 noText 0 [x, b]) l else if isB l [sLow] = true then (pLabel l).bind fun b l => (pName l).bind fun s l => (pNeed sEq l).bind fun _ l => (prs n .expr l).bind fun x l => semi (.mk 7 s b [x]) l else if isB l [sHigh] = true then (pLabel l).bind fun b l => (pName l).bind fun s l => (pNeed sEq l).bind fun _ l => (prs n .expr l).bind fun x l => semi (.mk 7 s b [x]) l else if isB l [sDo] = true then (pWhole l.tail).bind fun s l => (prs n (.call s) l).bind fun x l => semi (.mk 9 noText 0 [x]) l else if isB l [sOut] = true then (pLabel l.tail).bind fun b l => (prs n .expr l).bind fun x l => semi (.mk 12 noText b [x]) l else if isB l [sIn] = true then (pLabel l.tail).bind fun b l => (pWhole l).bind fun s l => (prs n (.place s) l).bind fun x l => semi (.mk 13 noText b [x]) l else if isB l [sReturn] = true then (prs n .expr l.tail).bind fun x l => semi (.mk 14 noText 0 [x]) l else (pWhole l).bind fun s l => (prs n (.place s) l).bind fun x l => (pNeed sEq l).bind fun _ l => (prs n .expr l).bind fun y l => semi (.mk 8 noText 0 [x, y]) l) := by
 simp only [prs]; cases l with
 | nil => rfl
 | cons t r =>
  by_cases hk : t.kind = 2
  ·simp [isB, hk]
  ·simp only [isB_cons hk, isB_cons2 hk]
   generalize t.text = s; by_cases eIf : s = sIf
   ·subst eIf; rfl
   by_cases eWhile : s = sWhile
   ·subst eWhile; rfl
   by_cases eLow : s = sLow
   ·subst eLow; rfl
   by_cases eHigh : s = sHigh
   ·subst eHigh; rfl
   by_cases eDo : s = sDo
   ·subst eDo; rfl
   by_cases eOut : s = sOut
   ·subst eOut; rfl
   by_cases eIn : s = sIn
   ·subst eIn; rfl
   by_cases eReturn : s = sReturn
   ·subst eReturn; rfl
   simp only [eIf, eWhile, eLow, eHigh, eDo, eOut, eIn, eReturn, decide_false, Bool.or_self, Bool.false_eq_true, ↓reduceIte]
set_option maxRecDepth 100000 in
set_option maxHeartbeats 4000000 in
theorem stat_step {b0 g0 : Bool} {n : Nat} (dA : RC b0 true n .asked) (dK : RC b0 false n .block) (dX : RC b0 false n .expr) (dC : ∀ s, RC b0 false n (.call s)) (dP : ∀ s, RC b0 false n (.place s)) {W w : World} {S : Nat} {l : List Tk} {b : Bool} (h : RdrAt W w S l b) (hb : b0 = true → b = true) (_hg : g0 = true → b = false) (hne : stO b l (prs (n + 1) (.stat) l) ≠ .out) :
  Calls Tryz.prog 227 #[.pointer (some ⟨S, 0, none⟩)] w (Rst (VN w.heap.size) W w S (stO b l (prs (n + 1) (.stat) l))) := by
 obtain ⟨T, hT⟩ : ∃ T, stO b l (prs (n + 1) (.stat) l) = T := ⟨_, rfl⟩; rw [hT] at hne ⊢; rw [stat_ref] at hT; have HT := Z_ hT; have HNE := Z_ hne; have HBD := Z_ hb; have HAT : Hid (RAt W w (w.alloc (.cells #[.int .i64 0, .string ⟨#[]⟩, .int .i64 0, .slice none 0 0] 66)) S w.heap.size l b) := Z_ (RAt.start h); obtain ⟨A, hA⟩ : ∃ A, w.heap.size = A := ⟨_, rfl⟩; rw [hA] at HAT; have hSA : S < A := by have := h.lt; omega
 clear h hb _hg hne hT; go_enter Tryz.func227, Tryz.ntmps227
 go_upto_region 1 with (fail)
 generalize w.alloc (.cells #[.int .i64 0, .string ⟨#[]⟩, .int .i64 0, .slice none 0 0] 66) = u0 at *; have HB := Z_ (RBld.start HAT.out 0 ⟨#[]⟩ 0); obtain ⟨N, hN⟩ : ∃ N, u0.heap.size = N := ⟨_, rfl⟩; rw [hN] at HB; have hSN : S < N := by have := HAT.out.lt; omega
 have hAN : A < N := by have := HAT.out.lt; omega
 clear HAT; go_upto_region 2 with (fail)
 generalize u0.alloc (.cells #[.int .i64 0, .string ⟨#[]⟩, .int .i64 0, .slice none 0 0] 66) = v0 at *; have HAT := Z_ HB.out.at_; have HN := Z_ (eat_any HAT.out.pr sIf (by decide)); have HY := Z_ (fun he => now_eat2 HT.out he); have HO := Z_ (fun he => now_not HT.out he); clear HT; generalize (!b && isB l [sIf]) = R at *; go_wp2_with fail
 refine HN.out.mono ?_
 rintro e u1 ⟨rfl, hC, hP⟩; cases R with
 | false =>
  replace hP : RdrAt W u1 S l b := by simpa using hP
  have HT := Z_ (HO.out (by trivial)); replace HB := Z_ (HB.out.call hC hP); replace HAT := Z_ HB.out.at_; clear hC hP HN HY HO; have HN := Z_ (eat_any HAT.out.pr sWhile (by decide)); have HY := Z_ (fun he => now_eat2 HT.out he); have HO := Z_ (fun he => now_not HT.out he); clear HT; generalize (!b && isB l [sWhile]) = R at *; go_wp2_with fail
  refine HN.out.mono ?_
  rintro e u2 ⟨rfl, hC, hP⟩; cases R with
  | false =>
   replace hP : RdrAt W u2 S l b := by simpa using hP
   have HT := Z_ (HO.out (by trivial)); replace HB := Z_ (HB.out.call hC hP); replace HAT := Z_ HB.out.at_; clear hC hP HN HY HO; have HN := Z_ (text_is HAT.out.pr sLow (by decide) (q := [108, 111, 119]) rfl); have HY := Z_ (fun he => now_eat2 HT.out he); have HO := Z_ (fun he => now_not HT.out he); clear HT; generalize (!b && isB l [sLow]) = R at *; go_wp2_with fail
   refine HN.out.mono ?_
   rintro e u3 ⟨xt, rfl, hst, hE⟩; replace HB := Z_ (HB.out.extend hE); replace HAT := Z_ HB.out.at_; clear hE HN; cases R with
   | false =>
    have HT := Z_ (HO.out (by trivial)); clear HY HO; have HN := Z_ (text_is HAT.out.pr sHigh (by decide) (q := [104, 105, 103, 104]) rfl); have HY := Z_ (fun he => now_eat2 HT.out he); have HO := Z_ (fun he => now_not HT.out he); clear HT; generalize (!b && isB l [sHigh]) = R at *; go_wp2_with fail
    refine HN.out.mono ?_
    rintro e u4 ⟨xt, rfl, hst, hE⟩; replace HB := Z_ (HB.out.extend hE); replace HAT := Z_ HB.out.at_; clear hE HN; cases R with
    | false =>
     have HT := Z_ (HO.out (by trivial)); clear HY HO; have HN := Z_ (eat_any HAT.out.pr sDo (by decide)); have HY := Z_ (fun he => now_eat2 HT.out he); have HO := Z_ (fun he => now_not HT.out he); clear HT; generalize (!b && isB l [sDo]) = R at *; go_wp2_with fail
     refine HN.out.mono ?_
     rintro e u5 ⟨rfl, hC, hP⟩; cases R with
     | false =>
      replace hP : RdrAt W u5 S l b := by simpa using hP
      have HT := Z_ (HO.out (by trivial)); replace HB := Z_ (HB.out.call hC hP); replace HAT := Z_ HB.out.at_; clear hC hP HN HY HO; have HN := Z_ (eat_any HAT.out.pr sOut (by decide)); have HY := Z_ (fun he => now_eat2 HT.out he); have HO := Z_ (fun he => now_not HT.out he); clear HT; generalize (!b && isB l [sOut]) = R at *; go_wp2_with fail
      refine HN.out.mono ?_
      rintro e u6 ⟨rfl, hC, hP⟩; cases R with
      | false =>
       replace hP : RdrAt W u6 S l b := by simpa using hP
       have HT := Z_ (HO.out (by trivial)); replace HB := Z_ (HB.out.call hC hP); replace HAT := Z_ HB.out.at_; clear hC hP HN HY HO; have HN := Z_ (eat_any HAT.out.pr sIn (by decide)); have HY := Z_ (fun he => now_eat2 HT.out he); have HO := Z_ (fun he => now_not HT.out he); clear HT; generalize (!b && isB l [sIn]) = R at *; go_wp2_with fail
       refine HN.out.mono ?_
       rintro e u7 ⟨rfl, hC, hP⟩; cases R with
       | false =>
        replace hP : RdrAt W u7 S l b := by simpa using hP
        have HT := Z_ (HO.out (by trivial)); replace HB := Z_ (HB.out.call hC hP); replace HAT := Z_ HB.out.at_; clear hC hP HN HY HO; have HN := Z_ (eat_any HAT.out.pr sReturn (by decide)); have HY := Z_ (fun he => now_eat2 HT.out he); have HO := Z_ (fun he => now_not HT.out he); clear HT; generalize (!b && isB l [sReturn]) = R at *; go_wp2_with fail
        refine HN.out.mono ?_
        rintro e u8 ⟨rfl, hC, hP⟩; cases R with
        | false =>
         replace hP : RdrAt W u8 S l b := by simpa using hP
         have HT := Z_ (HO.out (by trivial)); replace HB := Z_ (HB.out.call hC hP); replace HAT := Z_ HB.out.at_; clear hC hP HN HY HO; have n0 := HB.out.nd.cell; have nf := HB.out.nd.frozen; have nl := HB.out.lt; go_upto_region 44 with (fail)
         replace HB := Z_ (HB.out.kind 8); clear n0 nf nl; generalize u8.setCell ⟨N, 0, none⟩ (.int .i64 8) = f9 at *; replace HAT := Z_ HB.out.at_; have HN := Z_ (whole_any HAT.out.pr); go_wp2_with fail
         refine HN.out.mono ?_
         rintro e u10 ⟨hC, s10, v, l10, b10, rfl, ⟨rfl, hss10⟩, hP, hrel⟩; replace HT := Z_ (now_bind HT.out HNE.out hrel); replace HBD := Z_ (rel_bad (b0 := b0) hrel (by first | exact HBD.out | exact fun _ => rfl | (intro e; have := HBD.out; simp_all))); replace HB := Z_ (HB.out.call hC hP); replace HAT := Z_ HB.out.at_; clear hC hP hrel HN; obtain ⟨B, hB⟩ : ∃ B, u10.heap.size = B := ⟨_, rfl⟩; have hNB := HB.out.lt; have HOW := Z_ HB.out.own; rw [hB] at hNB HOW; have HN := Z_ ((dP s10) _ _ HAT.out.pr (by first | exact HBD.out | exact fun _ => rfl | (intro e; have := HBD.out; simp_all)) (fun e => by cases e) rfl hss10 (now_ne HT.out HNE.out)); go_wp2_with fail
         refine HN.out.mono ?_
         rintro e u11 ⟨hC, x11, v11, l11, b11, rfl, hv, hP, hrel⟩; replace HT := Z_ (now_bind HT.out HNE.out hrel); replace HBD := Z_ (rel_bad (b0 := b0) hrel (by first | exact HBD.out | exact fun _ => rfl | (intro e; have := HBD.out; simp_all))); replace HB := Z_ (HB.out.call hC hP); replace HAT := Z_ HB.out.at_; obtain ⟨ka11, ta11, ma11, aa11, na11, ca11, rfl⟩ := nd_form hv; have HV11 := Z_ hv; have hsz11 : u10.heap.size ≤ u11.heap.size := hC.size; clear hC hP hrel hv HN; rw [hB] at HV11 hsz11; have HK := Z_ (Kid.start HV11.out hSN hNB (fun i e => (HOW.out i e).2) hsz11 (c := #[.int .i64 ka11, .string ta11, .int .i64 ma11, .slice aa11 na11 ca11]) rfl); have hEx := (Chg.refl (fun _ => False) u11).alloc (.cells #[.int .i64 ka11, .string ta11, .int .i64 ma11, .slice aa11 na11 ca11] 66); replace HB := Z_ (HB.out.extend hEx); replace HAT := Z_ HB.out.at_
         clear hEx HOW; obtain ⟨XHK, hXHK⟩ : ∃ X, u11.heap.size = X := ⟨_, rfl⟩; rw [hXHK] at HK; go_upto_region 46 with (fail)
         generalize u11.alloc (.cells #[.int .i64 ka11, .string ta11, .int .i64 ma11, .slice aa11 na11 ca11] 66) = g11 at *; clear hB hNB hsz11 HV11; have HN := Z_ (must_any HAT.out.pr sEq (by decide)); go_wp2_with fail
         refine HN.out.mono ?_
         rintro e u12 ⟨hC, _, _, l12, b12, rfl, rfl, hP, hrel⟩; replace HT := Z_ (now_bind HT.out HNE.out hrel); replace HBD := Z_ (rel_bad (b0 := b0) hrel (by first | exact HBD.out | exact fun _ => rfl | (intro e; have := HBD.out; simp_all))); replace HB := Z_ (HB.out.call hC hP); replace HAT := Z_ HB.out.at_; replace HK := Z_ (HK.out.call hC); clear hC hP hrel HN; obtain ⟨B, hB⟩ : ∃ B, u12.heap.size = B := ⟨_, rfl⟩; have hNB := HB.out.lt; have HOW := Z_ HB.out.own; rw [hB] at hNB HOW; have HN := Z_ (dX _ _ HAT.out.pr (by first | exact HBD.out | exact fun _ => rfl | (intro e; have := HBD.out; simp_all)) (fun e => by cases e) rfl trivial (now_ne HT.out HNE.out)); go_wp2_with fail
         refine HN.out.mono ?_
         rintro e u13 ⟨hC, x13, v13, l13, b13, rfl, hv, hP, hrel⟩; replace HT := Z_ (now_bind HT.out HNE.out hrel); replace HBD := Z_ (rel_bad (b0 := b0) hrel (by first | exact HBD.out | exact fun _ => rfl | (intro e; have := HBD.out; simp_all))); replace HB := Z_ (HB.out.call hC hP); replace HAT := Z_ HB.out.at_; replace HK := Z_ (HK.out.call hC); obtain ⟨ka13, ta13, ma13, aa13, na13, ca13, rfl⟩ := nd_form hv; have HV13 := Z_ hv; have hsz13 : u12.heap.size ≤ u13.heap.size := hC.size; clear hC hP hrel hv HN; rw [hB] at HV13 hsz13; have HK2 := Z_ (Kid.start HV13.out hSN hNB (fun i e => (HOW.out i e).2) hsz13 (c := #[.int .i64 ka13, .string ta13, .int .i64 ma13, .slice aa13 na13 ca13]) rfl); have hEx := (Chg.refl (fun _ => False) u13).alloc (.cells #[.int .i64 ka13, .string ta13, .int .i64 ma13, .slice aa13 na13 ca13] 66); replace HB := Z_ (HB.out.extend hEx)
         replace HAT := Z_ HB.out.at_; replace HK := Z_ (HK.out.extend hEx); clear hEx HOW; obtain ⟨XHK2, hXHK2⟩ : ∃ X, u13.heap.size = X := ⟨_, rfl⟩; rw [hXHK2] at HK2; go_upto_region 48 with (fail)
         generalize u13.alloc (.cells #[.int .i64 ka13, .string ta13, .int .i64 ma13, .slice aa13 na13 ca13] 66) = g13 at *; clear hB hNB hsz13 HV13; refine wp_region_weave [2, 4, 5] (fun i v _ => v = ([.agg #[.int .i64 8, .string ⟨#[]⟩, .int .i64 0, (.slice none 0 0)], .agg #[.int .i64 ka11, .string ta11, .int .i64 ma11, .slice aa11 na11 ca11], undef, .agg #[.int .i64 ka13, .string ta13, .int .i64 ma13, .slice aa13 na13 ca13], undef, undef] : List Value).getD i undef) (MoreN W w S A N XHK XHK2 l13 b13 8 ⟨#[]⟩ 0 (.slice none 0 0) [] x11 x13 (.agg #[.int .i64 ka11, .string ta11, .int .i64 ma11, .slice aa11 na11 ca11]) (.agg #[.int .i64 ka13, .string ta13, .int .i64 ma13, .slice aa13 na13 ca13]) false) (fun _ _ => True) (frame := ?frac) (fun x => ?hfac) mixed (by kernel_rfl) (by kernel_rfl) (fun _ _ _ _ h _ => h) ?h0c ?stc ?finc
         case hfac =>
          simp only [chain.frameOf, chain.fill, chain.setOpt, chain.dstOf, List.size_toArray, List.length_cons, List.length_nil, List.getElem?_toArray, List.getElem?_cons_succ, List.getElem?_cons_zero, List.setIfInBounds_toArray, List.set_cons_succ, List.set_cons_zero]; exact rfl
         case h0c => exact ⟨HB.out.extend (Chg.refl _ _).drew, HK.out.extend (Chg.refl _ _).drew, HK2.out.extend (Chg.refl _ _).drew⟩
         case stc =>
          refine AllFrom.cons (fun x vs u hF hm hb hd K' hK' => ?sc0) (AllFrom.cons (fun x vs u hF hm hb hd K' hK' => ?sc1) (AllFrom.cons (fun x vs u hF hm hb hd K' hK' => ?sc2) (AllFrom.cons (fun x vs u hF hm hb hd K' hK' => ?sc3) (AllFrom.cons (fun x vs u hF hm hb hd K' hK' => ?sc4) (AllFrom.cons (fun x vs u hF hm hb hd K' hK' => ?sc5) (AllFrom.nil))))))
          case sc0 =>
           obtain rfl := List.eq_nil_of_length_eq_zero (Nat.le_zero.1 (hb 0 _ (by decide) rfl (by kernel_rfl))); have hc := hF.1.nd.cell; have HF := Z_ hF; clear hd hm hb hF; go_simp; exact hK'.out _ _ _ rfl trivial ⟨rfl, HF.out⟩
          case sc1 =>
           obtain rfl := List.eq_nil_of_length_eq_zero (Nat.le_zero.1 (hb 0 _ (by decide) rfl (by kernel_rfl))); have hc := hF.2.1.nd.cell; simp only [Value.cells] at hc; have HF := Z_ hF; clear hd hm hb hF; go_simp; exact hK'.out _ _ _ rfl trivial ⟨rfl, HF.out⟩
          case sc3 =>
           have hc := (MoreN.kid hF (by have := hb 1 _ (by decide) rfl (by kernel_rfl); omega)).cell; simp only [Value.cells] at hc; have HF := Z_ hF; clear hd hm hb hF; go_simp; exact hK'.out _ _ _ rfl trivial ⟨rfl, HF.out⟩
          case sc2 =>
           have y0 := hd 0 (by decide) (by kernel_rfl); replace y0 : x 128 = .agg #[.int .i64 8, .string ⟨#[]⟩, .int .i64 0, (.slice none 0 0)] := y0; have y1 := hd 1 (by decide) (by kernel_rfl); replace y1 : x 129 = .agg #[.int .i64 ka11, .string ta11, .int .i64 ma11, .slice aa11 na11 ca11] := y1; obtain rfl := List.eq_nil_of_length_eq_zero (hm 0 (by kernel_rfl)); have hF2 := hF; obtain ⟨h1, h2, h3⟩ := hF2; have hlt := h1.lt; have HMO := Z_ (more_any (k := 8) (m := 0) (t := ⟨#[]⟩) h1.grow h2.dat (by omega) (by simp)); clear h1 h2 h3; have HF := Z_ hF; clear hd hm hb hF; go_simp; refine HMO.out.mono ?_
           rintro e u2 ⟨g, c, rfl, hG, hC, hg⟩; exact hK'.out _ _ _ (by simp only [y0, y1]; rfl) trivial (more_one HF.out hG hC hg)
          case sc4 =>
           obtain ⟨v0, rfl⟩ : ∃ v0, vs = [v0] := by match vs, hm 1 (by kernel_rfl) with | [v0], _ => exact ⟨_, rfl⟩
           have y0 := hd 2 (by decide) (by kernel_rfl) 130 (by kernel_rfl); replace y0 : x 130 = v0 := y0; have y1 := hd 3 (by decide) (by kernel_rfl); replace y1 : x 131 = .agg #[.int .i64 ka13, .string ta13, .int .i64 ma13, .slice aa13 na13 ca13] := y1; have hF2 := hF; obtain ⟨g, c, rfl, h1, h3⟩ := hF2; have hlt := h1.lt; have HMO := Z_ (more_any (k := 8) (m := 0) (t := ⟨#[]⟩) h1.grow h3.dat (by omega) (by simp)); clear h1 h3; have HF := Z_ hF; clear hd hm hb hF; go_simp; refine HMO.out.mono ?_
           rintro e u2 ⟨g2, c2, rfl, hG, hC, -⟩; exact hK'.out _ _ _ (by simp only [y0, y1]; rfl) trivial (more_two HF.out hG hC)
          case sc5 =>
           obtain ⟨v0, v1, rfl⟩ : ∃ v0 v1, vs = [v0, v1] := by match vs, hm 2 (by kernel_rfl) with | [v0, v1], _ => exact ⟨_, _, rfl⟩
           have y0 := hd 4 (by decide) (by kernel_rfl) 132 (by kernel_rfl); replace y0 : x 132 = v1 := y0; have hF2 := hF; obtain ⟨g2, m2, c2, rfl, h1⟩ := hF2; have n0 := h1.nd.cell; have nf := h1.nd.frozen; have nl := h1.lt; clear h1; have HF := Z_ hF; clear hd hm hb hF; go_simp; exact hK'.out _ _ undef (by simp only [y0]; rfl) trivial (more_put HF.out)
         case finc =>
          intro x vs w9 hl hF hk; obtain ⟨v0, v1, v2, rfl⟩ : ∃ v0 v1 v2, vs = [v0, v1, v2] := by match vs, hl with | [v0, v1, v2], _ => exact ⟨_, _, _, rfl⟩
          obtain ⟨g2, m2, c2, hB9⟩ := hF; clear hk hl HB HAT; have HB := Z_ hB9; have HAT := Z_ hB9.at_; clear hB9; have HN := Z_ (must_any HAT.out.pr sSemi (by decide)); go_wp2_with fail
          refine HN.out.mono ?_
          rintro e u14 ⟨hC, _, _, l14, b14, rfl, rfl, hP, hrel⟩; replace HT := Z_ (now_bind HT.out HNE.out hrel); replace HBD := Z_ (rel_bad (b0 := b0) hrel (by first | exact HBD.out | exact fun _ => rfl | (intro e; have := HBD.out; simp_all))); replace HB := Z_ (HB.out.call hC hP); replace HAT := Z_ HB.out.at_; clear hC hP hrel HN; obtain ⟨ra, rc, hrow⟩ := HB.out.slice3
          first | subst hrow | clear hrow
          have n0 := HB.out.nd.cell; have r0 := HB.out.at_.res.cell; have rf := HB.out.at_.res.frozen; have rl := HB.out.at_.res.lt; unfold zeroNd at r0; go_wp2_with fail
          refine ends_at rfl rfl rfl ((((HB.out.at_.res.set 0 _).set 1 _).set 2 _).set 3 _) Tryz.underlying66 rfl (by kernel_rfl) ?_
          first | exact HB.out.ret (by decide) HT.out | (subst hA; exact HB.out.ret (by decide) HT.out)
        | true =>
         obtain ⟨hbf, HT0⟩ := HY.out (by trivial)
         first | subst hbf | clear hbf
         replace hP : RdrAt W u8 S l.tail false := by simpa using hP
         have HT := Z_ (HT0 l.tail); replace HB := Z_ (HB.out.call hC hP); replace HAT := Z_ HB.out.at_; clear hC hP HN HY HO HT0; have n0 := HB.out.nd.cell; have nf := HB.out.nd.frozen; have nl := HB.out.lt; go_upto_region 41 with (fail)
         replace HB := Z_ (HB.out.kind 14); clear n0 nf nl; generalize u8.setCell ⟨N, 0, none⟩ (.int .i64 14) = f15 at *; replace HAT := Z_ HB.out.at_; obtain ⟨B, hB⟩ : ∃ B, f15.heap.size = B := ⟨_, rfl⟩; have hNB := HB.out.lt; have HOW := Z_ HB.out.own; rw [hB] at hNB HOW; have HN := Z_ (dX _ _ HAT.out.pr (by first | exact HBD.out | exact fun _ => rfl | (intro e; have := HBD.out; simp_all)) (fun e => by cases e) rfl trivial (now_ne HT.out HNE.out)); go_wp2_with fail
         refine HN.out.mono ?_
         rintro e u16 ⟨hC, x16, v16, l16, b16, rfl, hv, hP, hrel⟩; replace HT := Z_ (now_bind HT.out HNE.out hrel); replace HBD := Z_ (rel_bad (b0 := b0) hrel (by first | exact HBD.out | exact fun _ => rfl | (intro e; have := HBD.out; simp_all))); replace HB := Z_ (HB.out.call hC hP); replace HAT := Z_ HB.out.at_; obtain ⟨ka16, ta16, ma16, aa16, na16, ca16, rfl⟩ := nd_form hv; have HV16 := Z_ hv; have hsz16 : f15.heap.size ≤ u16.heap.size := hC.size; clear hC hP hrel hv HN; rw [hB] at HV16 hsz16; have HK := Z_ (Kid.start HV16.out hSN hNB (fun i e => (HOW.out i e).2) hsz16 (c := #[.int .i64 ka16, .string ta16, .int .i64 ma16, .slice aa16 na16 ca16]) rfl); have hEx := (Chg.refl (fun _ => False) u16).alloc (.cells #[.int .i64 ka16, .string ta16, .int .i64 ma16, .slice aa16 na16 ca16] 66); replace HB := Z_ (HB.out.extend hEx); replace HAT := Z_ HB.out.at_
         clear hEx HOW; obtain ⟨XHK, hXHK⟩ : ∃ X, u16.heap.size = X := ⟨_, rfl⟩; rw [hXHK] at HK; go_upto_region 42 with (fail)
         generalize u16.alloc (.cells #[.int .i64 ka16, .string ta16, .int .i64 ma16, .slice aa16 na16 ca16] 66) = g16 at *; clear hB hNB hsz16 HV16; clear HAT; obtain ⟨ra, rc, hrow⟩ := HB.out.slice3
         first | subst hrow | (have e1 := (Value.slice.inj hrow).1; have e3 := (Value.slice.inj hrow).2.2; subst e1; subst e3)
         have n0 := HB.out.nd.cell; have nf := HB.out.nd.frozen; have nl := HB.out.lt; have kc := HK.out.nd.cell; simp only [Value.cells] at kc; go_wp2_with fail
         refine (more_any HB.out.grow HK.out.dat (by omega) (by simp)).mono ?_
         rintro e w5 ⟨g, c', rfl, hG, hC, hg⟩; replace HB := Z_ (HB.out.more hG hC); clear n0 nf nl kc hC hG hg; have n0 := HB.out.nd.cell; have nf := HB.out.nd.frozen; have nl := HB.out.lt; go_upto_region 49 with (fail)
         replace HB := Z_ HB.out.put; simp only [List.length_nil, Nat.zero_add] at HB; clear n0 nf nl; generalize ((((w5.setCell ⟨N, 0, none⟩ (.int .i64 14)).setCell ⟨N, 1, none⟩ (.string ⟨#[]⟩)).setCell ⟨N, 2, none⟩ (.int .i64 0)).setCell ⟨N, 3, none⟩ (.slice (some ⟨g, 0, none⟩) 1 c')) = w6 at *; have HAT := Z_ HB.out.at_; have HN := Z_ (must_any HAT.out.pr sSemi (by decide)); go_wp2_with fail
         refine HN.out.mono ?_
         rintro e u17 ⟨hC, _, _, l17, b17, rfl, rfl, hP, hrel⟩; replace HT := Z_ (now_bind HT.out HNE.out hrel); replace HBD := Z_ (rel_bad (b0 := b0) hrel (by first | exact HBD.out | exact fun _ => rfl | (intro e; have := HBD.out; simp_all))); replace HB := Z_ (HB.out.call hC hP); replace HAT := Z_ HB.out.at_; clear hC hP hrel HN; obtain ⟨ra, rc, hrow⟩ := HB.out.slice3
         first | subst hrow | clear hrow
         have n0 := HB.out.nd.cell; have r0 := HB.out.at_.res.cell; have rf := HB.out.at_.res.frozen; have rl := HB.out.at_.res.lt; unfold zeroNd at r0; go_wp2_with fail
         refine ends_at rfl rfl rfl ((((HB.out.at_.res.set 0 _).set 1 _).set 2 _).set 3 _) Tryz.underlying66 rfl (by kernel_rfl) ?_
         first | exact HB.out.ret (by decide) HT.out | (subst hA; exact HB.out.ret (by decide) HT.out)
       | true =>
        obtain ⟨hbf, HT0⟩ := HY.out (by trivial)
        first | subst hbf | clear hbf
        replace hP : RdrAt W u7 S l.tail false := by simpa using hP
        have HT := Z_ (HT0 l.tail); replace HB := Z_ (HB.out.call hC hP); replace HAT := Z_ HB.out.at_; clear hC hP HN HY HO HT0; have n0 := HB.out.nd.cell; have nf := HB.out.nd.frozen; have nl := HB.out.lt; go_upto_region 35 with (fail)
        replace HB := Z_ (HB.out.kind 13); clear n0 nf nl; generalize u7.setCell ⟨N, 0, none⟩ (.int .i64 13) = f18 at *; replace HAT := Z_ HB.out.at_; have HN := Z_ (label_any HAT.out.pr); go_wp2_with fail
        refine HN.out.mono ?_
        rintro e u19 ⟨hC, s19, v, l19, b19, rfl, ⟨rfl, hb0s19, hb1s19⟩, hP, hrel⟩; replace HT := Z_ (now_bind HT.out HNE.out hrel); replace HBD := Z_ (rel_bad (b0 := b0) hrel (by first | exact HBD.out | exact fun _ => rfl | (intro e; have := HBD.out; simp_all))); replace HB := Z_ (HB.out.call hC hP); replace HAT := Z_ HB.out.at_; clear hC hP hrel HN; have n0 := HB.out.nd.cell; have nf := HB.out.nd.frozen; have nl := HB.out.lt; go_upto_region 36 with (fail)
        replace HB := Z_ (HB.out.num s19); clear n0 nf nl; generalize u19.setCell ⟨N, 2, none⟩ (.int .i64 s19) = f20 at *; replace HAT := Z_ HB.out.at_; have HN := Z_ (whole_any HAT.out.pr); go_wp2_with fail
        refine HN.out.mono ?_
        rintro e u21 ⟨hC, s21, v, l21, b21, rfl, ⟨rfl, hss21⟩, hP, hrel⟩; replace HT := Z_ (now_bind HT.out HNE.out hrel); replace HBD := Z_ (rel_bad (b0 := b0) hrel (by first | exact HBD.out | exact fun _ => rfl | (intro e; have := HBD.out; simp_all))); replace HB := Z_ (HB.out.call hC hP); replace HAT := Z_ HB.out.at_; clear hC hP hrel HN; obtain ⟨B, hB⟩ : ∃ B, u21.heap.size = B := ⟨_, rfl⟩; have hNB := HB.out.lt; have HOW := Z_ HB.out.own; rw [hB] at hNB HOW; have HN := Z_ ((dP s21) _ _ HAT.out.pr (by first | exact HBD.out | exact fun _ => rfl | (intro e; have := HBD.out; simp_all)) (fun e => by cases e) rfl hss21 (now_ne HT.out HNE.out)); go_wp2_with fail
        refine HN.out.mono ?_
        rintro e u22 ⟨hC, x22, v22, l22, b22, rfl, hv, hP, hrel⟩; replace HT := Z_ (now_bind HT.out HNE.out hrel); replace HBD := Z_ (rel_bad (b0 := b0) hrel (by first | exact HBD.out | exact fun _ => rfl | (intro e; have := HBD.out; simp_all))); replace HB := Z_ (HB.out.call hC hP); replace HAT := Z_ HB.out.at_; obtain ⟨ka22, ta22, ma22, aa22, na22, ca22, rfl⟩ := nd_form hv; have HV22 := Z_ hv; have hsz22 : u21.heap.size ≤ u22.heap.size := hC.size; clear hC hP hrel hv HN; rw [hB] at HV22 hsz22; have HK := Z_ (Kid.start HV22.out hSN hNB (fun i e => (HOW.out i e).2) hsz22 (c := #[.int .i64 ka22, .string ta22, .int .i64 ma22, .slice aa22 na22 ca22]) rfl); have hEx := (Chg.refl (fun _ => False) u22).alloc (.cells #[.int .i64 ka22, .string ta22, .int .i64 ma22, .slice aa22 na22 ca22] 66); replace HB := Z_ (HB.out.extend hEx); replace HAT := Z_ HB.out.at_
        clear hEx HOW; obtain ⟨XHK, hXHK⟩ : ∃ X, u22.heap.size = X := ⟨_, rfl⟩; rw [hXHK] at HK; go_upto_region 38 with (fail)
        generalize u22.alloc (.cells #[.int .i64 ka22, .string ta22, .int .i64 ma22, .slice aa22 na22 ca22] 66) = g22 at *; clear hB hNB hsz22 HV22; clear HAT; obtain ⟨ra, rc, hrow⟩ := HB.out.slice3
        first | subst hrow | (have e1 := (Value.slice.inj hrow).1; have e3 := (Value.slice.inj hrow).2.2; subst e1; subst e3)
        have n0 := HB.out.nd.cell; have nf := HB.out.nd.frozen; have nl := HB.out.lt; have kc := HK.out.nd.cell; simp only [Value.cells] at kc; go_wp2_with fail
        refine (more_any HB.out.grow HK.out.dat (by omega) (by simp)).mono ?_
        rintro e w5 ⟨g, c', rfl, hG, hC, hg⟩; replace HB := Z_ (HB.out.more hG hC); clear n0 nf nl kc hC hG hg; have n0 := HB.out.nd.cell; have nf := HB.out.nd.frozen; have nl := HB.out.lt; go_upto_region 49 with (fail)
        replace HB := Z_ HB.out.put; simp only [List.length_nil, Nat.zero_add] at HB; clear n0 nf nl; generalize ((((w5.setCell ⟨N, 0, none⟩ (.int .i64 13)).setCell ⟨N, 1, none⟩ (.string ⟨#[]⟩)).setCell ⟨N, 2, none⟩ (.int .i64 s19)).setCell ⟨N, 3, none⟩ (.slice (some ⟨g, 0, none⟩) 1 c')) = w6 at *; have HAT := Z_ HB.out.at_; have HN := Z_ (must_any HAT.out.pr sSemi (by decide)); go_wp2_with fail
        refine HN.out.mono ?_
        rintro e u23 ⟨hC, _, _, l23, b23, rfl, rfl, hP, hrel⟩; replace HT := Z_ (now_bind HT.out HNE.out hrel); replace HBD := Z_ (rel_bad (b0 := b0) hrel (by first | exact HBD.out | exact fun _ => rfl | (intro e; have := HBD.out; simp_all))); replace HB := Z_ (HB.out.call hC hP); replace HAT := Z_ HB.out.at_; clear hC hP hrel HN; obtain ⟨ra, rc, hrow⟩ := HB.out.slice3
        first | subst hrow | clear hrow
        have n0 := HB.out.nd.cell; have r0 := HB.out.at_.res.cell; have rf := HB.out.at_.res.frozen; have rl := HB.out.at_.res.lt; unfold zeroNd at r0; go_wp2_with fail
        refine ends_at rfl rfl rfl ((((HB.out.at_.res.set 0 _).set 1 _).set 2 _).set 3 _) Tryz.underlying66 rfl (by kernel_rfl) ?_
        first | exact HB.out.ret (by decide) HT.out | (subst hA; exact HB.out.ret (by decide) HT.out)
      | true =>
       obtain ⟨hbf, HT0⟩ := HY.out (by trivial)
       first | subst hbf | clear hbf
       replace hP : RdrAt W u6 S l.tail false := by simpa using hP
       have HT := Z_ (HT0 l.tail); replace HB := Z_ (HB.out.call hC hP); replace HAT := Z_ HB.out.at_; clear hC hP HN HY HO HT0; have n0 := HB.out.nd.cell; have nf := HB.out.nd.frozen; have nl := HB.out.lt; go_upto_region 30 with (fail)
       replace HB := Z_ (HB.out.kind 12); clear n0 nf nl; generalize u6.setCell ⟨N, 0, none⟩ (.int .i64 12) = f24 at *; replace HAT := Z_ HB.out.at_; have HN := Z_ (label_any HAT.out.pr); go_wp2_with fail
       refine HN.out.mono ?_
       rintro e u25 ⟨hC, s25, v, l25, b25, rfl, ⟨rfl, hb0s25, hb1s25⟩, hP, hrel⟩; replace HT := Z_ (now_bind HT.out HNE.out hrel); replace HBD := Z_ (rel_bad (b0 := b0) hrel (by first | exact HBD.out | exact fun _ => rfl | (intro e; have := HBD.out; simp_all))); replace HB := Z_ (HB.out.call hC hP); replace HAT := Z_ HB.out.at_; clear hC hP hrel HN; have n0 := HB.out.nd.cell; have nf := HB.out.nd.frozen; have nl := HB.out.lt; go_upto_region 31 with (fail)
       replace HB := Z_ (HB.out.num s25); clear n0 nf nl; generalize u25.setCell ⟨N, 2, none⟩ (.int .i64 s25) = f26 at *; replace HAT := Z_ HB.out.at_; obtain ⟨B, hB⟩ : ∃ B, f26.heap.size = B := ⟨_, rfl⟩; have hNB := HB.out.lt; have HOW := Z_ HB.out.own; rw [hB] at hNB HOW; have HN := Z_ (dX _ _ HAT.out.pr (by first | exact HBD.out | exact fun _ => rfl | (intro e; have := HBD.out; simp_all)) (fun e => by cases e) rfl trivial (now_ne HT.out HNE.out)); go_wp2_with fail
       refine HN.out.mono ?_
       rintro e u27 ⟨hC, x27, v27, l27, b27, rfl, hv, hP, hrel⟩; replace HT := Z_ (now_bind HT.out HNE.out hrel); replace HBD := Z_ (rel_bad (b0 := b0) hrel (by first | exact HBD.out | exact fun _ => rfl | (intro e; have := HBD.out; simp_all))); replace HB := Z_ (HB.out.call hC hP); replace HAT := Z_ HB.out.at_; obtain ⟨ka27, ta27, ma27, aa27, na27, ca27, rfl⟩ := nd_form hv; have HV27 := Z_ hv; have hsz27 : f26.heap.size ≤ u27.heap.size := hC.size; clear hC hP hrel hv HN; rw [hB] at HV27 hsz27; have HK := Z_ (Kid.start HV27.out hSN hNB (fun i e => (HOW.out i e).2) hsz27 (c := #[.int .i64 ka27, .string ta27, .int .i64 ma27, .slice aa27 na27 ca27]) rfl); have hEx := (Chg.refl (fun _ => False) u27).alloc (.cells #[.int .i64 ka27, .string ta27, .int .i64 ma27, .slice aa27 na27 ca27] 66); replace HB := Z_ (HB.out.extend hEx); replace HAT := Z_ HB.out.at_
       clear hEx HOW; obtain ⟨XHK, hXHK⟩ : ∃ X, u27.heap.size = X := ⟨_, rfl⟩; rw [hXHK] at HK; go_upto_region 32 with (fail)
       generalize u27.alloc (.cells #[.int .i64 ka27, .string ta27, .int .i64 ma27, .slice aa27 na27 ca27] 66) = g27 at *; clear hB hNB hsz27 HV27; clear HAT; obtain ⟨ra, rc, hrow⟩ := HB.out.slice3
       first | subst hrow | (have e1 := (Value.slice.inj hrow).1; have e3 := (Value.slice.inj hrow).2.2; subst e1; subst e3)
       have n0 := HB.out.nd.cell; have nf := HB.out.nd.frozen; have nl := HB.out.lt; have kc := HK.out.nd.cell; simp only [Value.cells] at kc; go_wp2_with fail
       refine (more_any HB.out.grow HK.out.dat (by omega) (by simp)).mono ?_
       rintro e w5 ⟨g, c', rfl, hG, hC, hg⟩; replace HB := Z_ (HB.out.more hG hC); clear n0 nf nl kc hC hG hg; have n0 := HB.out.nd.cell; have nf := HB.out.nd.frozen; have nl := HB.out.lt; go_upto_region 49 with (fail)
       replace HB := Z_ HB.out.put; simp only [List.length_nil, Nat.zero_add] at HB; clear n0 nf nl; generalize ((((w5.setCell ⟨N, 0, none⟩ (.int .i64 12)).setCell ⟨N, 1, none⟩ (.string ⟨#[]⟩)).setCell ⟨N, 2, none⟩ (.int .i64 s25)).setCell ⟨N, 3, none⟩ (.slice (some ⟨g, 0, none⟩) 1 c')) = w6 at *; have HAT := Z_ HB.out.at_; have HN := Z_ (must_any HAT.out.pr sSemi (by decide)); go_wp2_with fail
       refine HN.out.mono ?_
       rintro e u28 ⟨hC, _, _, l28, b28, rfl, rfl, hP, hrel⟩; replace HT := Z_ (now_bind HT.out HNE.out hrel); replace HBD := Z_ (rel_bad (b0 := b0) hrel (by first | exact HBD.out | exact fun _ => rfl | (intro e; have := HBD.out; simp_all))); replace HB := Z_ (HB.out.call hC hP); replace HAT := Z_ HB.out.at_; clear hC hP hrel HN; obtain ⟨ra, rc, hrow⟩ := HB.out.slice3
       first | subst hrow | clear hrow
       have n0 := HB.out.nd.cell; have r0 := HB.out.at_.res.cell; have rf := HB.out.at_.res.frozen; have rl := HB.out.at_.res.lt; unfold zeroNd at r0; go_wp2_with fail
       refine ends_at rfl rfl rfl ((((HB.out.at_.res.set 0 _).set 1 _).set 2 _).set 3 _) Tryz.underlying66 rfl (by kernel_rfl) ?_
       first | exact HB.out.ret (by decide) HT.out | (subst hA; exact HB.out.ret (by decide) HT.out)
     | true =>
      obtain ⟨hbf, HT0⟩ := HY.out (by trivial)
      first | subst hbf | clear hbf
      replace hP : RdrAt W u5 S l.tail false := by simpa using hP
      have HT := Z_ (HT0 l.tail); replace HB := Z_ (HB.out.call hC hP); replace HAT := Z_ HB.out.at_; clear hC hP HN HY HO HT0; have n0 := HB.out.nd.cell; have nf := HB.out.nd.frozen; have nl := HB.out.lt; go_upto_region 25 with (fail)
      replace HB := Z_ (HB.out.kind 9); clear n0 nf nl; generalize u5.setCell ⟨N, 0, none⟩ (.int .i64 9) = f29 at *; replace HAT := Z_ HB.out.at_; have HN := Z_ (whole_any HAT.out.pr); go_wp2_with fail
      refine HN.out.mono ?_
      rintro e u30 ⟨hC, s30, v, l30, b30, rfl, ⟨rfl, hss30⟩, hP, hrel⟩; replace HT := Z_ (now_bind HT.out HNE.out hrel); replace HBD := Z_ (rel_bad (b0 := b0) hrel (by first | exact HBD.out | exact fun _ => rfl | (intro e; have := HBD.out; simp_all))); replace HB := Z_ (HB.out.call hC hP); replace HAT := Z_ HB.out.at_; clear hC hP hrel HN; obtain ⟨B, hB⟩ : ∃ B, u30.heap.size = B := ⟨_, rfl⟩; have hNB := HB.out.lt; have HOW := Z_ HB.out.own; rw [hB] at hNB HOW; have HN := Z_ ((dC s30) _ _ HAT.out.pr (by first | exact HBD.out | exact fun _ => rfl | (intro e; have := HBD.out; simp_all)) (fun e => by cases e) rfl hss30 (now_ne HT.out HNE.out)); go_wp2_with fail
      refine HN.out.mono ?_
      rintro e u31 ⟨hC, x31, v31, l31, b31, rfl, hv, hP, hrel⟩; replace HT := Z_ (now_bind HT.out HNE.out hrel); replace HBD := Z_ (rel_bad (b0 := b0) hrel (by first | exact HBD.out | exact fun _ => rfl | (intro e; have := HBD.out; simp_all))); replace HB := Z_ (HB.out.call hC hP); replace HAT := Z_ HB.out.at_; obtain ⟨ka31, ta31, ma31, aa31, na31, ca31, rfl⟩ := nd_form hv; have HV31 := Z_ hv; have hsz31 : u30.heap.size ≤ u31.heap.size := hC.size; clear hC hP hrel hv HN; rw [hB] at HV31 hsz31; have HK := Z_ (Kid.start HV31.out hSN hNB (fun i e => (HOW.out i e).2) hsz31 (c := #[.int .i64 ka31, .string ta31, .int .i64 ma31, .slice aa31 na31 ca31]) rfl); have hEx := (Chg.refl (fun _ => False) u31).alloc (.cells #[.int .i64 ka31, .string ta31, .int .i64 ma31, .slice aa31 na31 ca31] 66); replace HB := Z_ (HB.out.extend hEx); replace HAT := Z_ HB.out.at_
      clear hEx HOW; obtain ⟨XHK, hXHK⟩ : ∃ X, u31.heap.size = X := ⟨_, rfl⟩; rw [hXHK] at HK; go_upto_region 27 with (fail)
      generalize u31.alloc (.cells #[.int .i64 ka31, .string ta31, .int .i64 ma31, .slice aa31 na31 ca31] 66) = g31 at *; clear hB hNB hsz31 HV31; clear HAT; obtain ⟨ra, rc, hrow⟩ := HB.out.slice3
      first | subst hrow | (have e1 := (Value.slice.inj hrow).1; have e3 := (Value.slice.inj hrow).2.2; subst e1; subst e3)
      have n0 := HB.out.nd.cell; have nf := HB.out.nd.frozen; have nl := HB.out.lt; have kc := HK.out.nd.cell; simp only [Value.cells] at kc; go_wp2_with fail
      refine (more_any HB.out.grow HK.out.dat (by omega) (by simp)).mono ?_
      rintro e w5 ⟨g, c', rfl, hG, hC, hg⟩; replace HB := Z_ (HB.out.more hG hC); clear n0 nf nl kc hC hG hg; have n0 := HB.out.nd.cell; have nf := HB.out.nd.frozen; have nl := HB.out.lt; go_upto_region 49 with (fail)
      replace HB := Z_ HB.out.put; simp only [List.length_nil, Nat.zero_add] at HB; clear n0 nf nl; generalize ((((w5.setCell ⟨N, 0, none⟩ (.int .i64 9)).setCell ⟨N, 1, none⟩ (.string ⟨#[]⟩)).setCell ⟨N, 2, none⟩ (.int .i64 0)).setCell ⟨N, 3, none⟩ (.slice (some ⟨g, 0, none⟩) 1 c')) = w6 at *; have HAT := Z_ HB.out.at_; have HN := Z_ (must_any HAT.out.pr sSemi (by decide)); go_wp2_with fail
      refine HN.out.mono ?_
      rintro e u32 ⟨hC, _, _, l32, b32, rfl, rfl, hP, hrel⟩; replace HT := Z_ (now_bind HT.out HNE.out hrel); replace HBD := Z_ (rel_bad (b0 := b0) hrel (by first | exact HBD.out | exact fun _ => rfl | (intro e; have := HBD.out; simp_all))); replace HB := Z_ (HB.out.call hC hP); replace HAT := Z_ HB.out.at_; clear hC hP hrel HN; obtain ⟨ra, rc, hrow⟩ := HB.out.slice3
      first | subst hrow | clear hrow
      have n0 := HB.out.nd.cell; have r0 := HB.out.at_.res.cell; have rf := HB.out.at_.res.frozen; have rl := HB.out.at_.res.lt; unfold zeroNd at r0; go_wp2_with fail
      refine ends_at rfl rfl rfl ((((HB.out.at_.res.set 0 _).set 1 _).set 2 _).set 3 _) Tryz.underlying66 rfl (by kernel_rfl) ?_
      first | exact HB.out.ret (by decide) HT.out | (subst hA; exact HB.out.ret (by decide) HT.out)
    | true =>
     obtain ⟨hbf, HT0⟩ := HY.out (by trivial)
     first | subst hbf | clear hbf
     have HT := Z_ (HT0 l); clear HY HO HT0; have n0 := HB.out.nd.cell; have nf := HB.out.nd.frozen; have nl := HB.out.lt; go_upto_region 18 with (fail)
     replace HB := Z_ (HB.out.kind 7); clear n0 nf nl; generalize u4.setCell ⟨N, 0, none⟩ (.int .i64 7) = f33 at *; replace HAT := Z_ HB.out.at_; have HN := Z_ (label_any HAT.out.pr); go_wp2_with fail
     refine HN.out.mono ?_
     rintro e u34 ⟨hC, s34, v, l34, b34, rfl, ⟨rfl, hb0s34, hb1s34⟩, hP, hrel⟩; replace HT := Z_ (now_bind HT.out HNE.out hrel); replace HBD := Z_ (rel_bad (b0 := b0) hrel (by first | exact HBD.out | exact fun _ => rfl | (intro e; have := HBD.out; simp_all))); replace HB := Z_ (HB.out.call hC hP); replace HAT := Z_ HB.out.at_; clear hC hP hrel HN; have n0 := HB.out.nd.cell; have nf := HB.out.nd.frozen; have nl := HB.out.lt; go_upto_region 19 with (fail)
     replace HB := Z_ (HB.out.num s34); clear n0 nf nl; generalize u34.setCell ⟨N, 2, none⟩ (.int .i64 s34) = f35 at *; replace HAT := Z_ HB.out.at_; have HN := Z_ (name_any3 HAT.out.pr); go_wp2_with fail
     refine HN.out.mono ?_
     rintro e u36 ⟨hC, s36, v, l36, b36, rfl, ⟨rfl, hss36⟩, hP, hrel⟩; replace HT := Z_ (now_bind HT.out HNE.out hrel); replace HBD := Z_ (rel_bad (b0 := b0) hrel (by first | exact HBD.out | exact fun _ => rfl | (intro e; have := HBD.out; simp_all))); replace HB := Z_ (HB.out.call hC hP); replace HAT := Z_ HB.out.at_; clear hC hP hrel HN; have n0 := HB.out.nd.cell; have nf := HB.out.nd.frozen; have nl := HB.out.lt; go_upto_region 20 with (fail)
     replace HB := Z_ (HB.out.text s36); clear n0 nf nl; generalize u36.setCell ⟨N, 1, none⟩ (.string s36) = f37 at *; replace HAT := Z_ HB.out.at_; have HN := Z_ (must_any HAT.out.pr sEq (by decide)); go_wp2_with fail
     refine HN.out.mono ?_
     rintro e u38 ⟨hC, _, _, l38, b38, rfl, rfl, hP, hrel⟩; replace HT := Z_ (now_bind HT.out HNE.out hrel); replace HBD := Z_ (rel_bad (b0 := b0) hrel (by first | exact HBD.out | exact fun _ => rfl | (intro e; have := HBD.out; simp_all))); replace HB := Z_ (HB.out.call hC hP); replace HAT := Z_ HB.out.at_; clear hC hP hrel HN; obtain ⟨B, hB⟩ : ∃ B, u38.heap.size = B := ⟨_, rfl⟩; have hNB := HB.out.lt; have HOW := Z_ HB.out.own; rw [hB] at hNB HOW; have HN := Z_ (dX _ _ HAT.out.pr (by first | exact HBD.out | exact fun _ => rfl | (intro e; have := HBD.out; simp_all)) (fun e => by cases e) rfl trivial (now_ne HT.out HNE.out)); go_wp2_with fail
     refine HN.out.mono ?_
     rintro e u39 ⟨hC, x39, v39, l39, b39, rfl, hv, hP, hrel⟩; replace HT := Z_ (now_bind HT.out HNE.out hrel); replace HBD := Z_ (rel_bad (b0 := b0) hrel (by first | exact HBD.out | exact fun _ => rfl | (intro e; have := HBD.out; simp_all))); replace HB := Z_ (HB.out.call hC hP); replace HAT := Z_ HB.out.at_; obtain ⟨ka39, ta39, ma39, aa39, na39, ca39, rfl⟩ := nd_form hv; have HV39 := Z_ hv; have hsz39 : u38.heap.size ≤ u39.heap.size := hC.size; clear hC hP hrel hv HN; rw [hB] at HV39 hsz39; have HK := Z_ (Kid.start HV39.out hSN hNB (fun i e => (HOW.out i e).2) hsz39 (c := #[.int .i64 ka39, .string ta39, .int .i64 ma39, .slice aa39 na39 ca39]) rfl); have hEx := (Chg.refl (fun _ => False) u39).alloc (.cells #[.int .i64 ka39, .string ta39, .int .i64 ma39, .slice aa39 na39 ca39] 66); replace HB := Z_ (HB.out.extend hEx); replace HAT := Z_ HB.out.at_
     clear hEx HOW; obtain ⟨XHK, hXHK⟩ : ∃ X, u39.heap.size = X := ⟨_, rfl⟩; rw [hXHK] at HK; go_upto_region 22 with (fail)
     generalize u39.alloc (.cells #[.int .i64 ka39, .string ta39, .int .i64 ma39, .slice aa39 na39 ca39] 66) = g39 at *; clear hB hNB hsz39 HV39; clear HAT; obtain ⟨ra, rc, hrow⟩ := HB.out.slice3
     first | subst hrow | (have e1 := (Value.slice.inj hrow).1; have e3 := (Value.slice.inj hrow).2.2; subst e1; subst e3)
     have n0 := HB.out.nd.cell; have nf := HB.out.nd.frozen; have nl := HB.out.lt; have kc := HK.out.nd.cell; simp only [Value.cells] at kc; go_wp2_with fail
     refine (more_any HB.out.grow HK.out.dat (by omega) (by simp)).mono ?_
     rintro e w5 ⟨g, c', rfl, hG, hC, hg⟩; replace HB := Z_ (HB.out.more hG hC); clear n0 nf nl kc hC hG hg; have n0 := HB.out.nd.cell; have nf := HB.out.nd.frozen; have nl := HB.out.lt; go_upto_region 49 with (fail)
     replace HB := Z_ HB.out.put; simp only [List.length_nil, Nat.zero_add] at HB; clear n0 nf nl; generalize ((((w5.setCell ⟨N, 0, none⟩ (.int .i64 7)).setCell ⟨N, 1, none⟩ (.string s36)).setCell ⟨N, 2, none⟩ (.int .i64 s34)).setCell ⟨N, 3, none⟩ (.slice (some ⟨g, 0, none⟩) 1 c')) = w6 at *; have HAT := Z_ HB.out.at_; have HN := Z_ (must_any HAT.out.pr sSemi (by decide)); go_wp2_with fail
     refine HN.out.mono ?_
     rintro e u40 ⟨hC, _, _, l40, b40, rfl, rfl, hP, hrel⟩; replace HT := Z_ (now_bind HT.out HNE.out hrel); replace HBD := Z_ (rel_bad (b0 := b0) hrel (by first | exact HBD.out | exact fun _ => rfl | (intro e; have := HBD.out; simp_all))); replace HB := Z_ (HB.out.call hC hP); replace HAT := Z_ HB.out.at_; clear hC hP hrel HN; obtain ⟨ra, rc, hrow⟩ := HB.out.slice3
     first | subst hrow | clear hrow
     have n0 := HB.out.nd.cell; have r0 := HB.out.at_.res.cell; have rf := HB.out.at_.res.frozen; have rl := HB.out.at_.res.lt; unfold zeroNd at r0; go_wp2_with fail
     refine ends_at rfl rfl rfl ((((HB.out.at_.res.set 0 _).set 1 _).set 2 _).set 3 _) Tryz.underlying66 rfl (by kernel_rfl) ?_
     first | exact HB.out.ret (by omega) HT.out | (subst hA; exact HB.out.ret (by omega) HT.out)
   | true =>
    obtain ⟨hbf, HT0⟩ := HY.out (by trivial)
    first | subst hbf | clear hbf
    have HT := Z_ (HT0 l); clear HY HO HT0; have n0 := HB.out.nd.cell; have nf := HB.out.nd.frozen; have nl := HB.out.lt; go_upto_region 18 with (fail)
    replace HB := Z_ (HB.out.kind 7); clear n0 nf nl; generalize u3.setCell ⟨N, 0, none⟩ (.int .i64 7) = f41 at *; replace HAT := Z_ HB.out.at_; have HN := Z_ (label_any HAT.out.pr); go_wp2_with fail
    refine HN.out.mono ?_
    rintro e u42 ⟨hC, s42, v, l42, b42, rfl, ⟨rfl, hb0s42, hb1s42⟩, hP, hrel⟩; replace HT := Z_ (now_bind HT.out HNE.out hrel); replace HBD := Z_ (rel_bad (b0 := b0) hrel (by first | exact HBD.out | exact fun _ => rfl | (intro e; have := HBD.out; simp_all))); replace HB := Z_ (HB.out.call hC hP); replace HAT := Z_ HB.out.at_; clear hC hP hrel HN; have n0 := HB.out.nd.cell; have nf := HB.out.nd.frozen; have nl := HB.out.lt; go_upto_region 19 with (fail)
    replace HB := Z_ (HB.out.num s42); clear n0 nf nl; generalize u42.setCell ⟨N, 2, none⟩ (.int .i64 s42) = f43 at *; replace HAT := Z_ HB.out.at_; have HN := Z_ (name_any3 HAT.out.pr); go_wp2_with fail
    refine HN.out.mono ?_
    rintro e u44 ⟨hC, s44, v, l44, b44, rfl, ⟨rfl, hss44⟩, hP, hrel⟩; replace HT := Z_ (now_bind HT.out HNE.out hrel); replace HBD := Z_ (rel_bad (b0 := b0) hrel (by first | exact HBD.out | exact fun _ => rfl | (intro e; have := HBD.out; simp_all))); replace HB := Z_ (HB.out.call hC hP); replace HAT := Z_ HB.out.at_; clear hC hP hrel HN; have n0 := HB.out.nd.cell; have nf := HB.out.nd.frozen; have nl := HB.out.lt; go_upto_region 20 with (fail)
    replace HB := Z_ (HB.out.text s44); clear n0 nf nl; generalize u44.setCell ⟨N, 1, none⟩ (.string s44) = f45 at *; replace HAT := Z_ HB.out.at_; have HN := Z_ (must_any HAT.out.pr sEq (by decide)); go_wp2_with fail
    refine HN.out.mono ?_
    rintro e u46 ⟨hC, _, _, l46, b46, rfl, rfl, hP, hrel⟩; replace HT := Z_ (now_bind HT.out HNE.out hrel); replace HBD := Z_ (rel_bad (b0 := b0) hrel (by first | exact HBD.out | exact fun _ => rfl | (intro e; have := HBD.out; simp_all))); replace HB := Z_ (HB.out.call hC hP); replace HAT := Z_ HB.out.at_; clear hC hP hrel HN; obtain ⟨B, hB⟩ : ∃ B, u46.heap.size = B := ⟨_, rfl⟩; have hNB := HB.out.lt; have HOW := Z_ HB.out.own; rw [hB] at hNB HOW; have HN := Z_ (dX _ _ HAT.out.pr (by first | exact HBD.out | exact fun _ => rfl | (intro e; have := HBD.out; simp_all)) (fun e => by cases e) rfl trivial (now_ne HT.out HNE.out)); go_wp2_with fail
    refine HN.out.mono ?_
    rintro e u47 ⟨hC, x47, v47, l47, b47, rfl, hv, hP, hrel⟩; replace HT := Z_ (now_bind HT.out HNE.out hrel); replace HBD := Z_ (rel_bad (b0 := b0) hrel (by first | exact HBD.out | exact fun _ => rfl | (intro e; have := HBD.out; simp_all))); replace HB := Z_ (HB.out.call hC hP); replace HAT := Z_ HB.out.at_; obtain ⟨ka47, ta47, ma47, aa47, na47, ca47, rfl⟩ := nd_form hv; have HV47 := Z_ hv; have hsz47 : u46.heap.size ≤ u47.heap.size := hC.size; clear hC hP hrel hv HN; rw [hB] at HV47 hsz47; have HK := Z_ (Kid.start HV47.out hSN hNB (fun i e => (HOW.out i e).2) hsz47 (c := #[.int .i64 ka47, .string ta47, .int .i64 ma47, .slice aa47 na47 ca47]) rfl); have hEx := (Chg.refl (fun _ => False) u47).alloc (.cells #[.int .i64 ka47, .string ta47, .int .i64 ma47, .slice aa47 na47 ca47] 66); replace HB := Z_ (HB.out.extend hEx); replace HAT := Z_ HB.out.at_
    clear hEx HOW; obtain ⟨XHK, hXHK⟩ : ∃ X, u47.heap.size = X := ⟨_, rfl⟩; rw [hXHK] at HK; go_upto_region 22 with (fail)
    generalize u47.alloc (.cells #[.int .i64 ka47, .string ta47, .int .i64 ma47, .slice aa47 na47 ca47] 66) = g47 at *; clear hB hNB hsz47 HV47; clear HAT; obtain ⟨ra, rc, hrow⟩ := HB.out.slice3
    first | subst hrow | (have e1 := (Value.slice.inj hrow).1; have e3 := (Value.slice.inj hrow).2.2; subst e1; subst e3)
    have n0 := HB.out.nd.cell; have nf := HB.out.nd.frozen; have nl := HB.out.lt; have kc := HK.out.nd.cell; simp only [Value.cells] at kc; go_wp2_with fail
    refine (more_any HB.out.grow HK.out.dat (by omega) (by simp)).mono ?_
    rintro e w5 ⟨g, c', rfl, hG, hC, hg⟩; replace HB := Z_ (HB.out.more hG hC); clear n0 nf nl kc hC hG hg; have n0 := HB.out.nd.cell; have nf := HB.out.nd.frozen; have nl := HB.out.lt; go_upto_region 49 with (fail)
    replace HB := Z_ HB.out.put; simp only [List.length_nil, Nat.zero_add] at HB; clear n0 nf nl; generalize ((((w5.setCell ⟨N, 0, none⟩ (.int .i64 7)).setCell ⟨N, 1, none⟩ (.string s44)).setCell ⟨N, 2, none⟩ (.int .i64 s42)).setCell ⟨N, 3, none⟩ (.slice (some ⟨g, 0, none⟩) 1 c')) = w6 at *; have HAT := Z_ HB.out.at_; have HN := Z_ (must_any HAT.out.pr sSemi (by decide)); go_wp2_with fail
    refine HN.out.mono ?_
    rintro e u48 ⟨hC, _, _, l48, b48, rfl, rfl, hP, hrel⟩; replace HT := Z_ (now_bind HT.out HNE.out hrel); replace HBD := Z_ (rel_bad (b0 := b0) hrel (by first | exact HBD.out | exact fun _ => rfl | (intro e; have := HBD.out; simp_all))); replace HB := Z_ (HB.out.call hC hP); replace HAT := Z_ HB.out.at_; clear hC hP hrel HN; obtain ⟨ra, rc, hrow⟩ := HB.out.slice3
    first | subst hrow | clear hrow
    have n0 := HB.out.nd.cell; have r0 := HB.out.at_.res.cell; have rf := HB.out.at_.res.frozen; have rl := HB.out.at_.res.lt; unfold zeroNd at r0; go_wp2_with fail
    refine ends_at rfl rfl rfl ((((HB.out.at_.res.set 0 _).set 1 _).set 2 _).set 3 _) Tryz.underlying66 rfl (by kernel_rfl) ?_
    first | exact HB.out.ret (by omega) HT.out | (subst hA; exact HB.out.ret (by omega) HT.out)
  | true =>
   obtain ⟨hbf, HT0⟩ := HY.out (by trivial)
   first | subst hbf | clear hbf
   replace hP : RdrAt W u2 S l.tail false := by simpa using hP
   have HT := Z_ (HT0 l.tail); replace HB := Z_ (HB.out.call hC hP); replace HAT := Z_ HB.out.at_; clear hC hP HN HY HO HT0; have n0 := HB.out.nd.cell; have nf := HB.out.nd.frozen; have nl := HB.out.lt; go_upto_region 13 with (fail)
   replace HB := Z_ (HB.out.kind 11); clear n0 nf nl; generalize u2.setCell ⟨N, 0, none⟩ (.int .i64 11) = f49 at *; replace HAT := Z_ HB.out.at_; obtain ⟨B, hB⟩ : ∃ B, f49.heap.size = B := ⟨_, rfl⟩; have hNB := HB.out.lt; have HOW := Z_ HB.out.own; rw [hB] at hNB HOW; have HN := Z_ (dA _ _ HAT.out.pr (by first | exact HBD.out | exact fun _ => rfl | (intro e; have := HBD.out; simp_all)) (fun _ => rfl) rfl trivial (now_ne HT.out HNE.out)); go_wp2_with fail
   refine HN.out.mono ?_
   rintro e u50 ⟨hC, x50, v50, l50, b50, rfl, hv, hP, hrel⟩; replace HT := Z_ (now_bind HT.out HNE.out hrel); replace HBD := Z_ (rel_bad (b0 := b0) hrel (by first | exact HBD.out | exact fun _ => rfl | (intro e; have := HBD.out; simp_all))); replace HB := Z_ (HB.out.call hC hP); replace HAT := Z_ HB.out.at_; obtain ⟨ka50, ta50, ma50, aa50, na50, ca50, rfl⟩ := nd_form hv; have HV50 := Z_ hv; have hsz50 : f49.heap.size ≤ u50.heap.size := hC.size; clear hC hP hrel hv HN; rw [hB] at HV50 hsz50; have HK := Z_ (Kid.start HV50.out hSN hNB (fun i e => (HOW.out i e).2) hsz50 (c := #[.int .i64 ka50, .string ta50, .int .i64 ma50, .slice aa50 na50 ca50]) rfl); have hEx := (Chg.refl (fun _ => False) u50).alloc (.cells #[.int .i64 ka50, .string ta50, .int .i64 ma50, .slice aa50 na50 ca50] 66); replace HB := Z_ (HB.out.extend hEx); replace HAT := Z_ HB.out.at_
   clear hEx HOW; obtain ⟨XHK, hXHK⟩ : ∃ X, u50.heap.size = X := ⟨_, rfl⟩; rw [hXHK] at HK; go_upto_region 14 with (fail)
   generalize u50.alloc (.cells #[.int .i64 ka50, .string ta50, .int .i64 ma50, .slice aa50 na50 ca50] 66) = g50 at *; clear hB hNB hsz50 HV50; obtain ⟨B, hB⟩ : ∃ B, g50.heap.size = B := ⟨_, rfl⟩; have hNB := HB.out.lt; have HOW := Z_ HB.out.own; rw [hB] at hNB HOW; have HN := Z_ (dK _ _ HAT.out.pr (by first | exact HBD.out | exact fun _ => rfl | (intro e; have := HBD.out; simp_all)) (fun e => by cases e) rfl trivial (now_ne HT.out HNE.out)); go_wp2_with fail
   refine HN.out.mono ?_
   rintro e u51 ⟨hC, x51, v51, l51, b51, rfl, hv, hP, hrel⟩; replace HT := Z_ (now_bind HT.out HNE.out hrel); replace HBD := Z_ (rel_bad (b0 := b0) hrel (by first | exact HBD.out | exact fun _ => rfl | (intro e; have := HBD.out; simp_all))); replace HB := Z_ (HB.out.call hC hP); replace HAT := Z_ HB.out.at_; replace HK := Z_ (HK.out.call hC); obtain ⟨ka51, ta51, ma51, aa51, na51, ca51, rfl⟩ := nd_form hv; have HV51 := Z_ hv; have hsz51 : g50.heap.size ≤ u51.heap.size := hC.size; clear hC hP hrel hv HN; rw [hB] at HV51 hsz51; have HK2 := Z_ (Kid.start HV51.out hSN hNB (fun i e => (HOW.out i e).2) hsz51 (c := #[.int .i64 ka51, .string ta51, .int .i64 ma51, .slice aa51 na51 ca51]) rfl); have hEx := (Chg.refl (fun _ => False) u51).alloc (.cells #[.int .i64 ka51, .string ta51, .int .i64 ma51, .slice aa51 na51 ca51] 66); replace HB := Z_ (HB.out.extend hEx)
   replace HAT := Z_ HB.out.at_; replace HK := Z_ (HK.out.extend hEx); clear hEx HOW; obtain ⟨XHK2, hXHK2⟩ : ∃ X, u51.heap.size = X := ⟨_, rfl⟩; rw [hXHK2] at HK2; go_upto_region 15 with (fail)
   generalize u51.alloc (.cells #[.int .i64 ka51, .string ta51, .int .i64 ma51, .slice aa51 na51 ca51] 66) = g51 at *; clear hB hNB hsz51 HV51; refine wp_region_weave [2, 4, 5] (fun i v _ => v = ([.agg #[.int .i64 11, .string ⟨#[]⟩, .int .i64 0, (.slice none 0 0)], .agg #[.int .i64 ka50, .string ta50, .int .i64 ma50, .slice aa50 na50 ca50], undef, .agg #[.int .i64 ka51, .string ta51, .int .i64 ma51, .slice aa51 na51 ca51], undef, undef] : List Value).getD i undef) (MoreN W w S A N XHK XHK2 l51 b51 11 ⟨#[]⟩ 0 (.slice none 0 0) [] x50 x51 (.agg #[.int .i64 ka50, .string ta50, .int .i64 ma50, .slice aa50 na50 ca50]) (.agg #[.int .i64 ka51, .string ta51, .int .i64 ma51, .slice aa51 na51 ca51]) true) (fun _ _ => True) (frame := ?frab) (fun x => ?hfab) mixed (by kernel_rfl) (by kernel_rfl) (fun _ _ _ _ h _ => h) ?h0b ?stb ?finb
   case hfab =>
    simp only [chain.frameOf, chain.fill, chain.setOpt, chain.dstOf, List.size_toArray, List.length_cons, List.length_nil, List.getElem?_toArray, List.getElem?_cons_succ, List.getElem?_cons_zero, List.setIfInBounds_toArray, List.set_cons_succ, List.set_cons_zero]; exact rfl
   case h0b => exact ⟨HB.out.extend (Chg.refl _ _).drew, HK.out.extend (Chg.refl _ _).drew, HK2.out.extend (Chg.refl _ _).drew⟩
   case stb =>
    refine AllFrom.cons (fun x vs u hF hm hb hd K' hK' => ?sb0) (AllFrom.cons (fun x vs u hF hm hb hd K' hK' => ?sb1) (AllFrom.cons (fun x vs u hF hm hb hd K' hK' => ?sb2) (AllFrom.cons (fun x vs u hF hm hb hd K' hK' => ?sb3) (AllFrom.cons (fun x vs u hF hm hb hd K' hK' => ?sb4) (AllFrom.cons (fun x vs u hF hm hb hd K' hK' => ?sb5) (AllFrom.nil))))))
    case sb0 =>
     obtain rfl := List.eq_nil_of_length_eq_zero (Nat.le_zero.1 (hb 0 _ (by decide) rfl (by kernel_rfl))); have hc := hF.1.nd.cell; have HF := Z_ hF; clear hd hm hb hF; go_simp; exact hK'.out _ _ _ rfl trivial ⟨rfl, HF.out⟩
    case sb1 =>
     obtain rfl := List.eq_nil_of_length_eq_zero (Nat.le_zero.1 (hb 0 _ (by decide) rfl (by kernel_rfl))); have hc := hF.2.1.nd.cell; simp only [Value.cells] at hc; have HF := Z_ hF; clear hd hm hb hF; go_simp; exact hK'.out _ _ _ rfl trivial ⟨rfl, HF.out⟩
    case sb3 =>
     have hc := (MoreN.kid hF (by have := hb 1 _ (by decide) rfl (by kernel_rfl); omega)).cell; simp only [Value.cells] at hc; have HF := Z_ hF; clear hd hm hb hF; go_simp; exact hK'.out _ _ _ rfl trivial ⟨rfl, HF.out⟩
    case sb2 =>
     have y0 := hd 0 (by decide) (by kernel_rfl); replace y0 : x 47 = .agg #[.int .i64 11, .string ⟨#[]⟩, .int .i64 0, (.slice none 0 0)] := y0; have y1 := hd 1 (by decide) (by kernel_rfl); replace y1 : x 48 = .agg #[.int .i64 ka50, .string ta50, .int .i64 ma50, .slice aa50 na50 ca50] := y1; obtain rfl := List.eq_nil_of_length_eq_zero (hm 0 (by kernel_rfl)); have hF2 := hF; obtain ⟨h1, h2, h3⟩ := hF2; have hlt := h1.lt; have HMO := Z_ (more_any (k := 11) (m := 0) (t := ⟨#[]⟩) h1.grow h2.dat (by omega) (by simp)); clear h1 h2 h3; have HF := Z_ hF; clear hd hm hb hF; go_simp; refine HMO.out.mono ?_
     rintro e u2 ⟨g, c, rfl, hG, hC, hg⟩; exact hK'.out _ _ _ (by simp only [y0, y1]; rfl) trivial (more_one HF.out hG hC hg)
    case sb4 =>
     obtain ⟨v0, rfl⟩ : ∃ v0, vs = [v0] := by match vs, hm 1 (by kernel_rfl) with | [v0], _ => exact ⟨_, rfl⟩
     have y0 := hd 2 (by decide) (by kernel_rfl) 49 (by kernel_rfl); replace y0 : x 49 = v0 := y0; have y1 := hd 3 (by decide) (by kernel_rfl); replace y1 : x 50 = .agg #[.int .i64 ka51, .string ta51, .int .i64 ma51, .slice aa51 na51 ca51] := y1; have hF2 := hF; obtain ⟨g, c, rfl, h1, h3⟩ := hF2; have hlt := h1.lt; have HMO := Z_ (more_any (k := 11) (m := 0) (t := ⟨#[]⟩) h1.grow h3.dat (by omega) (by simp)); clear h1 h3; have HF := Z_ hF; clear hd hm hb hF; go_simp; refine HMO.out.mono ?_
     rintro e u2 ⟨g2, c2, rfl, hG, hC, -⟩; exact hK'.out _ _ _ (by simp only [y0, y1]; rfl) trivial (more_two HF.out hG hC)
    case sb5 =>
     obtain ⟨v0, v1, rfl⟩ : ∃ v0 v1, vs = [v0, v1] := by match vs, hm 2 (by kernel_rfl) with | [v0, v1], _ => exact ⟨_, _, rfl⟩
     have y0 := hd 4 (by decide) (by kernel_rfl) 51 (by kernel_rfl); replace y0 : x 51 = v1 := y0; have hF2 := hF; obtain ⟨g2, m2, c2, rfl, h1⟩ := hF2; have r0 := h1.at_.res.cell; have rf := h1.at_.res.frozen; have rl := h1.at_.res.lt; unfold zeroNd at r0; clear h1; have HF := Z_ hF; clear hd hm hb hF; go_simp; exact hK'.out _ _ undef (by simp only [y0]; rfl) trivial (more_tell HF.out)
   case finb =>
    intro x vs w9 hl hF hk; obtain ⟨v0, v1, v2, rfl⟩ : ∃ v0 v1 v2, vs = [v0, v1, v2] := by match vs, hl with | [v0, v1, v2], _ => exact ⟨_, _, _, rfl⟩
    obtain ⟨g2, m2, c2, w8, rfl, hB9⟩ := hF; clear hk hl HB HAT; have HB := Z_ hB9; clear hB9; go_wp2_with fail
    refine ends_at rfl rfl rfl ((((HB.out.at_.res.set 0 _).set 1 _).set 2 _).set 3 _) Tryz.underlying66 rfl (by kernel_rfl) ?_
    first | exact HB.out.ret (by decide) HT.out | (subst hA; exact HB.out.ret (by decide) HT.out)
 | true =>
  obtain ⟨hbf, HT0⟩ := HY.out (by trivial)
  first | subst hbf | clear hbf
  replace hP : RdrAt W u1 S l.tail false := by simpa using hP
  have HT := Z_ (HT0 l.tail); replace HB := Z_ (HB.out.call hC hP); replace HAT := Z_ HB.out.at_; clear hC hP HN HY HO HT0; have n0 := HB.out.nd.cell; have nf := HB.out.nd.frozen; have nl := HB.out.lt; go_upto_region 4 with (fail)
  replace HB := Z_ (HB.out.kind 10); clear n0 nf nl; generalize u1.setCell ⟨N, 0, none⟩ (.int .i64 10) = f52 at *; replace HAT := Z_ HB.out.at_; obtain ⟨B, hB⟩ : ∃ B, f52.heap.size = B := ⟨_, rfl⟩; have hNB := HB.out.lt; have HOW := Z_ HB.out.own; rw [hB] at hNB HOW; have HN := Z_ (dA _ _ HAT.out.pr (by first | exact HBD.out | exact fun _ => rfl | (intro e; have := HBD.out; simp_all)) (fun _ => rfl) rfl trivial (now_ne HT.out HNE.out)); go_wp2_with fail
  refine HN.out.mono ?_
  rintro e u53 ⟨hC, x53, v53, l53, b53, rfl, hv, hP, hrel⟩; replace HT := Z_ (now_bind HT.out HNE.out hrel); replace HBD := Z_ (rel_bad (b0 := b0) hrel (by first | exact HBD.out | exact fun _ => rfl | (intro e; have := HBD.out; simp_all))); replace HB := Z_ (HB.out.call hC hP); replace HAT := Z_ HB.out.at_; obtain ⟨ka53, ta53, ma53, aa53, na53, ca53, rfl⟩ := nd_form hv; have HV53 := Z_ hv; have hsz53 : f52.heap.size ≤ u53.heap.size := hC.size; clear hC hP hrel hv HN; rw [hB] at HV53 hsz53; have HK := Z_ (Kid.start HV53.out hSN hNB (fun i e => (HOW.out i e).2) hsz53 (c := #[.int .i64 ka53, .string ta53, .int .i64 ma53, .slice aa53 na53 ca53]) rfl); have hEx := (Chg.refl (fun _ => False) u53).alloc (.cells #[.int .i64 ka53, .string ta53, .int .i64 ma53, .slice aa53 na53 ca53] 66); replace HB := Z_ (HB.out.extend hEx); replace HAT := Z_ HB.out.at_
  clear hEx HOW; obtain ⟨XHK, hXHK⟩ : ∃ X, u53.heap.size = X := ⟨_, rfl⟩; rw [hXHK] at HK; go_upto_region 5 with (fail)
  generalize u53.alloc (.cells #[.int .i64 ka53, .string ta53, .int .i64 ma53, .slice aa53 na53 ca53] 66) = g53 at *; clear hB hNB hsz53 HV53; obtain ⟨B, hB⟩ : ∃ B, g53.heap.size = B := ⟨_, rfl⟩; have hNB := HB.out.lt; have HOW := Z_ HB.out.own; rw [hB] at hNB HOW; have HN := Z_ (dK _ _ HAT.out.pr (by first | exact HBD.out | exact fun _ => rfl | (intro e; have := HBD.out; simp_all)) (fun e => by cases e) rfl trivial (now_ne HT.out HNE.out)); go_wp2_with fail
  refine HN.out.mono ?_
  rintro e u54 ⟨hC, x54, v54, l54, b54, rfl, hv, hP, hrel⟩; replace HT := Z_ (now_bind HT.out HNE.out hrel); replace HBD := Z_ (rel_bad (b0 := b0) hrel (by first | exact HBD.out | exact fun _ => rfl | (intro e; have := HBD.out; simp_all))); replace HB := Z_ (HB.out.call hC hP); replace HAT := Z_ HB.out.at_; replace HK := Z_ (HK.out.call hC); obtain ⟨ka54, ta54, ma54, aa54, na54, ca54, rfl⟩ := nd_form hv; have HV54 := Z_ hv; have hsz54 : g53.heap.size ≤ u54.heap.size := hC.size; clear hC hP hrel hv HN; rw [hB] at HV54 hsz54; have HK2 := Z_ (Kid.start HV54.out hSN hNB (fun i e => (HOW.out i e).2) hsz54 (c := #[.int .i64 ka54, .string ta54, .int .i64 ma54, .slice aa54 na54 ca54]) rfl); have hEx := (Chg.refl (fun _ => False) u54).alloc (.cells #[.int .i64 ka54, .string ta54, .int .i64 ma54, .slice aa54 na54 ca54] 66); replace HB := Z_ (HB.out.extend hEx)
  replace HAT := Z_ HB.out.at_; replace HK := Z_ (HK.out.extend hEx); clear hEx HOW; obtain ⟨XHK2, hXHK2⟩ : ∃ X, u54.heap.size = X := ⟨_, rfl⟩; rw [hXHK2] at HK2; go_upto_region 6 with (fail)
  generalize u54.alloc (.cells #[.int .i64 ka54, .string ta54, .int .i64 ma54, .slice aa54 na54 ca54] 66) = g54 at *; clear hB hNB hsz54 HV54; refine wp_region_weave [2, 4, 5] (fun i v _ => v = ([.agg #[.int .i64 10, .string ⟨#[]⟩, .int .i64 0, (.slice none 0 0)], .agg #[.int .i64 ka53, .string ta53, .int .i64 ma53, .slice aa53 na53 ca53], undef, .agg #[.int .i64 ka54, .string ta54, .int .i64 ma54, .slice aa54 na54 ca54], undef, undef] : List Value).getD i undef) (MoreN W w S A N XHK XHK2 l54 b54 10 ⟨#[]⟩ 0 (.slice none 0 0) [] x53 x54 (.agg #[.int .i64 ka53, .string ta53, .int .i64 ma53, .slice aa53 na53 ca53]) (.agg #[.int .i64 ka54, .string ta54, .int .i64 ma54, .slice aa54 na54 ca54]) false) (fun _ _ => True) (frame := ?fraa) (fun x => ?hfaa) mixed (by kernel_rfl) (by kernel_rfl) (fun _ _ _ _ h _ => h) ?h0a ?sta ?fina
  case hfaa =>
   simp only [chain.frameOf, chain.fill, chain.setOpt, chain.dstOf, List.size_toArray, List.length_cons, List.length_nil, List.getElem?_toArray, List.getElem?_cons_succ, List.getElem?_cons_zero, List.setIfInBounds_toArray, List.set_cons_succ, List.set_cons_zero]; exact rfl
  case h0a => exact ⟨HB.out.extend (Chg.refl _ _).drew, HK.out.extend (Chg.refl _ _).drew, HK2.out.extend (Chg.refl _ _).drew⟩
  case sta =>
   refine AllFrom.cons (fun x vs u hF hm hb hd K' hK' => ?sa0) (AllFrom.cons (fun x vs u hF hm hb hd K' hK' => ?sa1) (AllFrom.cons (fun x vs u hF hm hb hd K' hK' => ?sa2) (AllFrom.cons (fun x vs u hF hm hb hd K' hK' => ?sa3) (AllFrom.cons (fun x vs u hF hm hb hd K' hK' => ?sa4) (AllFrom.cons (fun x vs u hF hm hb hd K' hK' => ?sa5) (AllFrom.nil))))))
   case sa0 =>
    obtain rfl := List.eq_nil_of_length_eq_zero (Nat.le_zero.1 (hb 0 _ (by decide) rfl (by kernel_rfl))); have hc := hF.1.nd.cell; have HF := Z_ hF; clear hd hm hb hF; go_simp; exact hK'.out _ _ _ rfl trivial ⟨rfl, HF.out⟩
   case sa1 =>
    obtain rfl := List.eq_nil_of_length_eq_zero (Nat.le_zero.1 (hb 0 _ (by decide) rfl (by kernel_rfl))); have hc := hF.2.1.nd.cell; simp only [Value.cells] at hc; have HF := Z_ hF; clear hd hm hb hF; go_simp; exact hK'.out _ _ _ rfl trivial ⟨rfl, HF.out⟩
   case sa3 =>
    have hc := (MoreN.kid hF (by have := hb 1 _ (by decide) rfl (by kernel_rfl); omega)).cell; simp only [Value.cells] at hc; have HF := Z_ hF; clear hd hm hb hF; go_simp; exact hK'.out _ _ _ rfl trivial ⟨rfl, HF.out⟩
   case sa2 =>
    have y0 := hd 0 (by decide) (by kernel_rfl); replace y0 : x 27 = .agg #[.int .i64 10, .string ⟨#[]⟩, .int .i64 0, (.slice none 0 0)] := y0; have y1 := hd 1 (by decide) (by kernel_rfl); replace y1 : x 28 = .agg #[.int .i64 ka53, .string ta53, .int .i64 ma53, .slice aa53 na53 ca53] := y1; obtain rfl := List.eq_nil_of_length_eq_zero (hm 0 (by kernel_rfl)); have hF2 := hF; obtain ⟨h1, h2, h3⟩ := hF2; have hlt := h1.lt; have HMO := Z_ (more_any (k := 10) (m := 0) (t := ⟨#[]⟩) h1.grow h2.dat (by omega) (by simp)); clear h1 h2 h3; have HF := Z_ hF; clear hd hm hb hF; go_simp; refine HMO.out.mono ?_
    rintro e u2 ⟨g, c, rfl, hG, hC, hg⟩; exact hK'.out _ _ _ (by simp only [y0, y1]; rfl) trivial (more_one HF.out hG hC hg)
   case sa4 =>
    obtain ⟨v0, rfl⟩ : ∃ v0, vs = [v0] := by match vs, hm 1 (by kernel_rfl) with | [v0], _ => exact ⟨_, rfl⟩
    have y0 := hd 2 (by decide) (by kernel_rfl) 29 (by kernel_rfl); replace y0 : x 29 = v0 := y0; have y1 := hd 3 (by decide) (by kernel_rfl); replace y1 : x 30 = .agg #[.int .i64 ka54, .string ta54, .int .i64 ma54, .slice aa54 na54 ca54] := y1; have hF2 := hF; obtain ⟨g, c, rfl, h1, h3⟩ := hF2; have hlt := h1.lt; have HMO := Z_ (more_any (k := 10) (m := 0) (t := ⟨#[]⟩) h1.grow h3.dat (by omega) (by simp)); clear h1 h3; have HF := Z_ hF; clear hd hm hb hF; go_simp; refine HMO.out.mono ?_
    rintro e u2 ⟨g2, c2, rfl, hG, hC, -⟩; exact hK'.out _ _ _ (by simp only [y0, y1]; rfl) trivial (more_two HF.out hG hC)
   case sa5 =>
    obtain ⟨v0, v1, rfl⟩ : ∃ v0 v1, vs = [v0, v1] := by match vs, hm 2 (by kernel_rfl) with | [v0, v1], _ => exact ⟨_, _, rfl⟩
    have y0 := hd 4 (by decide) (by kernel_rfl) 31 (by kernel_rfl); replace y0 : x 31 = v1 := y0; have hF2 := hF; obtain ⟨g2, m2, c2, rfl, h1⟩ := hF2; have n0 := h1.nd.cell; have nf := h1.nd.frozen; have nl := h1.lt; clear h1; have HF := Z_ hF; clear hd hm hb hF; go_simp; exact hK'.out _ _ undef (by simp only [y0]; rfl) trivial (more_put HF.out)
  case fina =>
   intro x vs w9 hl hF hk; obtain ⟨v0, v1, v2, rfl⟩ : ∃ v0 v1 v2, vs = [v0, v1, v2] := by match vs, hl with | [v0, v1, v2], _ => exact ⟨_, _, _, rfl⟩
   obtain ⟨g2, m2, c2, hB9⟩ := hF; clear hk hl HB HAT; have HB := Z_ hB9; have HAT := Z_ hB9.at_; clear hB9; have HN := Z_ (eat_any HAT.out.pr sElse (by decide)); have HY := Z_ (fun he => now_eat2 HT.out he); have HO := Z_ (fun he => now_not HT.out he); clear HT; generalize (!b54 && isB l54 [sElse]) = R at *; go_wp2_with fail
   refine HN.out.mono ?_
   rintro e u55 ⟨rfl, hC, hP⟩; cases R with
   | false =>
    replace hP : RdrAt W u55 S l54 b54 := by simpa using hP
    have HT := Z_ (HO.out (by trivial)); replace HB := Z_ (HB.out.call hC hP); replace HAT := Z_ HB.out.at_; clear hC hP HN HY HO; obtain ⟨ra, rc, hrow⟩ := HB.out.slice3
    first | subst hrow | clear hrow
    have n0 := HB.out.nd.cell; have r0 := HB.out.at_.res.cell; have rf := HB.out.at_.res.frozen; have rl := HB.out.at_.res.lt; unfold zeroNd at r0; go_wp2_with fail
    refine ends_at rfl rfl rfl ((((HB.out.at_.res.set 0 _).set 1 _).set 2 _).set 3 _) Tryz.underlying66 rfl (by kernel_rfl) ?_
    first | exact HB.out.ret (by decide) HT.out | (subst hA; exact HB.out.ret (by decide) HT.out)
   | true =>
    obtain ⟨hbf, HT0⟩ := HY.out (by trivial)
    first | subst hbf | clear hbf
    replace hP : RdrAt W u55 S l54.tail false := by simpa using hP
    have HT := Z_ (HT0 l54.tail); replace HB := Z_ (HB.out.call hC hP); replace HAT := Z_ HB.out.at_; clear hC hP HN HY HO HT0; obtain ⟨B, hB⟩ : ∃ B, u55.heap.size = B := ⟨_, rfl⟩; have hNB := HB.out.lt; have HOW := Z_ HB.out.own; rw [hB] at hNB HOW; have HN := Z_ (dK _ _ HAT.out.pr (by first | exact HBD.out | exact fun _ => rfl | (intro e; have := HBD.out; simp_all)) (fun e => by cases e) rfl trivial (now_ne HT.out HNE.out)); go_wp2_with fail
    refine HN.out.mono ?_
    rintro e u56 ⟨hC, x56, v56, l56, b56, rfl, hv, hP, hrel⟩; replace HT := Z_ (now_bind HT.out HNE.out hrel); replace HBD := Z_ (rel_bad (b0 := b0) hrel (by first | exact HBD.out | exact fun _ => rfl | (intro e; have := HBD.out; simp_all))); replace HB := Z_ (HB.out.call hC hP); replace HAT := Z_ HB.out.at_; obtain ⟨ka56, ta56, ma56, aa56, na56, ca56, rfl⟩ := nd_form hv; have HV56 := Z_ hv; have hsz56 : u55.heap.size ≤ u56.heap.size := hC.size; clear hC hP hrel hv HN; rw [hB] at HV56 hsz56; have HK3 := Z_ (Kid.start HV56.out hSN hNB (fun i e => (HOW.out i e).2) hsz56 (c := #[.int .i64 ka56, .string ta56, .int .i64 ma56, .slice aa56 na56 ca56]) rfl); have hEx := (Chg.refl (fun _ => False) u56).alloc (.cells #[.int .i64 ka56, .string ta56, .int .i64 ma56, .slice aa56 na56 ca56] 66); replace HB := Z_ (HB.out.extend hEx); replace HAT := Z_ HB.out.at_
    clear hEx HOW; obtain ⟨XHK3, hXHK3⟩ : ∃ X, u56.heap.size = X := ⟨_, rfl⟩; rw [hXHK3] at HK3; go_upto_region 9 with (fail)
    generalize u56.alloc (.cells #[.int .i64 ka56, .string ta56, .int .i64 ma56, .slice aa56 na56 ca56] 66) = g56 at *; clear hB hNB hsz56 HV56; clear HAT; obtain ⟨ra, rc, hrow⟩ := HB.out.slice3
    first | subst hrow | (have e1 := (Value.slice.inj hrow).1; have e3 := (Value.slice.inj hrow).2.2; subst e1; subst e3)
    have n0 := HB.out.nd.cell; have nf := HB.out.nd.frozen; have nl := HB.out.lt; have kc := HK3.out.nd.cell; simp only [Value.cells] at kc; go_wp2_with fail
    refine (more_any HB.out.grow HK3.out.dat (by omega) (by simp)).mono ?_
    rintro e w5 ⟨g, c', rfl, hG, hC, hg⟩; replace HB := Z_ (HB.out.more hG hC); clear n0 nf nl kc hC hG hg; have n0 := HB.out.nd.cell; have nf := HB.out.nd.frozen; have nl := HB.out.lt; go_upto_region 10 with (fail)
    replace HB := Z_ HB.out.put; simp only [List.length_append, List.length_cons, List.length_nil, Nat.zero_add, Nat.reduceAdd] at HB; clear n0 nf nl; generalize ((((w5.setCell ⟨N, 0, none⟩ (.int .i64 10)).setCell ⟨N, 1, none⟩ (.string ⟨#[]⟩)).setCell ⟨N, 2, none⟩ (.int .i64 0)).setCell ⟨N, 3, none⟩ (.slice (some ⟨g, 0, none⟩) 3 c')) = w6 at *; have HAT := Z_ HB.out.at_; obtain ⟨ra, rc, hrow⟩ := HB.out.slice3
    first | subst hrow | clear hrow
    have n0 := HB.out.nd.cell; have r0 := HB.out.at_.res.cell; have rf := HB.out.at_.res.frozen; have rl := HB.out.at_.res.lt; unfold zeroNd at r0; go_wp2_with fail
    refine ends_at rfl rfl rfl ((((HB.out.at_.res.set 0 _).set 1 _).set 2 _).set 3 _) Tryz.underlying66 rfl (by kernel_rfl) ?_
    first | exact HB.out.ret (by decide) HT.out | (subst hA; exact HB.out.ret (by decide) HT.out)
end synr
end Go.Proofs.YtpcihajmcejliabGreatDoor
