/- The reference's reader: declarations. -/
import Derived.Test.YtpcihajmcejliabGreatDoorSynR7
namespace Go.Proofs.YtpcihajmcejliabGreatDoor
open Go.RowKit
namespace synr
open synw
def doneQ (n : Nat) (s : ByteArray) (pub : Int) (acc : List Nd) (l : List Tk) : Out Nd := (pNeed sClose l).bind fun _ l => (pLabel l).bind fun b l =>
 if isB l [sGives] = true then (pLabel l.tail).bind fun g l => (prs (n - 1) .block l).bind fun x l => .got (.mk 4 s (pub + b + (4 + 4 * g)) (acc ++ [x])) l
 else (prs (n - 1) .block l).bind fun x l => .got (.mk 4 s (pub + b) (acc ++ [x])) l
def parQ (n : Nat) (s : ByteArray) (pub : Int) (acc : List Nd) (l : List Tk) : Out Nd := (pLabel l).bind fun b l => (pName l).bind fun p l =>
 if isB l [sComma] = true then prs (n - 1) (.params s pub (acc ++ [.mk 5 p b []])) l.tail else doneQ n s pub (acc ++ [.mk 5 p b []]) l
def declQ (n : Nat) (pub : Int) (l : List Tk) : Out Nd :=
 if isB l [sProc] = true then prs n (.proc pub) l.tail
 else (pLabel l).bind fun b l => (pName l).bind fun s l =>
  if isB l [sBra] = true then (pNumber l.tail).bind fun x l => (pNeed sKet l).bind fun _ l => semi (.mk 3 s (pub + b) [x]) l else semi (.mk 3 s (pub + b) []) l
theorem decl_ref (n : Nat) (l : List Tk) : prs (n + 1) .decl l = if isB l [sPub] = true then declQ n 2 l.tail else declQ n 0 l := by
 simp only [prs, declQ]; cases isB l [sPub] <;> simp [Int.add_comm]
theorem params_open {n : Nat} {s : ByteArray} {pub : Int} {l : List Tk} {b : Bool} {T : Out Nd} (h : stO b l (prs n (.params s pub []) l) = T) (hT : T ≠ .out) : stO b l (if isB l [sClose] = true then doneQ n s pub [] l else parQ n s pub [] l) = T := by
 cases b with
 | true => exact h
 | false =>
  cases n with
  | zero => exact absurd h.symm hT
  | succ n =>
   have h2 : prs (n + 1) (.params s pub []) l = T := h; simp only [prs] at h2; show (if _ then _ else _) = T
   rw [← h2]; cases hi : isB l [sClose] with
   | true => simp [doneQ]
   | false => simp [parQ, doneQ]
theorem params_next {n : Nat} {s : ByteArray} {pub : Int} {acc : List Nd} {x : Nd} {l : List Tk} {b : Bool} {T : Out Nd} (h : stO b l (prs n (.params s pub (acc ++ [x])) l) = T) (hT : T ≠ .out) : stO b l (parQ n s pub (acc ++ [x]) l) = T := by
 cases b with
 | true => exact h
 | false =>
  cases n with
  | zero => exact absurd h.symm hT
  | succ n =>
   have h2 : prs (n + 1) (.params s pub (acc ++ [x])) l = T := h; simp only [prs] at h2; rw [← h2]; simp [stO, parQ, doneQ]
theorem rel_len {α : Type} {b b2 : Bool} {l l2 : List Tk} {p : Out α} {y : α} {k q : Nat} (h : Rel (stO b l p) y l2 b2) (hp : ∀ x r, p = .got x r → r.length + q ≤ l.length) (hne : p ≠ .out) (hl : b = false → k + l.length ≤ 10000) : b2 = false → k + q + l2.length ≤ 10000 := by
 intro e; subst e; cases b with
 | true => cases h.2
 | false =>
  have h2 : Rel p y l2 false := h; cases p with
  | out => exact absurd rfl hne
  | bad r => cases h2.2
  | got x r =>
   obtain ⟨_, rfl, _⟩ := h2; have := hp x l2 rfl; have := hl rfl; omega
theorem Kid.leaf {W w0 u0 u : World} {S A N X : Nat} {l : List Tk} {b : Bool} {kind num : Int} {text : ByteArray} {rowN row : Value} {acc : List Nd} (h : RBld W w0 u0 S A N l b kind text num rowN row acc) (hX : u0.heap.size ≤ X) {k m : Int} {t : ByteArray} (hb : Blk u X #[.int .i64 k, .string t, .int .i64 m, .slice none 0 0] 66) (ht : t.size ≤ 10000) (hSN : S < N) : Kid S N X row u (.mk k t m []) (.agg #[.int .i64 k, .string t, .int .i64 m, .slice none 0 0]) := by
 have h1 := h.lt; exact ⟨hb, ndAt_leaf _ _ _ _ ht, hSN, by omega, fun e => by have := h.own _ e; omega⟩
set_option maxRecDepth 100000 in
set_option maxHeartbeats 4000000 in
theorem decl_step {b0 g0 : Bool} {n : Nat} (dK : ∀ m, m ≤ n → RC b0 false m .block) {W w : World} {S : Nat} {l : List Tk} {b : Bool} (h : RdrAt W w S l b) (hb : b0 = true → b = true) (_hg : g0 = true → b = false) (hne : stO b l (prs (n + 1) (.decl) l) ≠ .out) :
  Calls Tryz.prog 91 #[.pointer (some ⟨S, 0, none⟩)] w (Rst (VN w.heap.size) W w S (stO b l (prs (n + 1) (.decl) l))) := by
 obtain ⟨T, hT⟩ : ∃ T, stO b l (prs (n + 1) (.decl) l) = T := ⟨_, rfl⟩; rw [hT] at hne ⊢; rw [decl_ref] at hT; have HT := Z_ hT; have HNE := Z_ hne; have HBD := Z_ hb; have HAT : Hid (RAt W w (w.alloc (.cells #[.int .i64 0, .string ⟨#[]⟩, .int .i64 0, .slice none 0 0] 66)) S w.heap.size l b) := Z_ (RAt.start h); obtain ⟨A, hA⟩ : ∃ A, w.heap.size = A := ⟨_, rfl⟩; rw [hA] at HAT; have hSA : S < A := by have := h.lt; omega
 clear h hb _hg hne hT; go_enter Tryz.func91, Tryz.ntmps91
 go_upto_region 1 with (fail)
 generalize w.alloc (.cells #[.int .i64 0, .string ⟨#[]⟩, .int .i64 0, .slice none 0 0] 66) = u0 at *; have HB := Z_ (RBld.start HAT.out 0 ⟨#[]⟩ 0); obtain ⟨N, hN⟩ : ∃ N, u0.heap.size = N := ⟨_, rfl⟩; rw [hN] at HB; have hSN : S < N := by have := HAT.out.lt; omega
 have hAN : A < N := by have := HAT.out.lt; omega
 clear HAT; go_upto_region 2 with (fail)
 generalize u0.alloc (.cells #[.int .i64 0, .string ⟨#[]⟩, .int .i64 0, .slice none 0 0] 66) = v0 at *; have HAT := Z_ HB.out.at_; have HN := Z_ (eat_any HAT.out.pr sPub (by decide)); have HY := Z_ (fun he => now_eat2 HT.out he); have HO := Z_ (fun he => now_not HT.out he); clear HT; generalize (!b && isB l [sPub]) = R at *; go_wp2_with fail
 refine HN.out.mono ?_
 rintro e u1 ⟨rfl, hC, hP⟩; cases R with
 | false =>
  replace hP : RdrAt W u1 S l b := by simpa using hP
  have HT := Z_ (HO.out (by trivial)); replace HB := Z_ (HB.out.call hC hP); replace HAT := Z_ HB.out.at_; clear hC hP HN HY HO; obtain ⟨P, hP⟩ : ∃ P : Int, (0 : Int) = P := ⟨_, rfl⟩; have HB2 : Hid (RBld W w u1 S A N l b 0 ⟨#[]⟩ P (.slice none 0 0) (.slice none 0 0) []) := Z_ (by rw [← hP]; exact HB.out); have HT2 : Hid (stO b l (declQ n P l) = T) := Z_ (by rw [← hP]; exact HT.out); have hP0 : 0 ≤ P := by omega
  have hP2 : P ≤ 2 := by omega
  clear HB HT hP HAT; have HB := HB2; have HT0 := HT2.out; have HAT := Z_ HB.out.at_; clear HB2 HT2; simp only [declQ] at HT0; have HT := Z_ HT0; clear HT0; have HN := Z_ (eat_any HAT.out.pr sProc (by decide)); have HY := Z_ (fun he => now_eat2 HT.out he); have HO := Z_ (fun he => now_not HT.out he); clear HT; generalize (!b && isB l [sProc]) = R at *; go_wp2_with fail
  refine HN.out.mono ?_
  rintro e u2 ⟨rfl, hC, hP⟩; cases R with
  | false =>
   replace hP : RdrAt W u2 S l b := by simpa using hP
   have HT := Z_ (HO.out (by trivial)); replace HB := Z_ (HB.out.call hC hP); replace HAT := Z_ HB.out.at_; clear hC hP HN HY HO; have n0 := HB.out.nd.cell; have nf := HB.out.nd.frozen; have nl := HB.out.lt; go_upto_region 6 with (fail)
   replace HB := Z_ (HB.out.kind 3); clear n0 nf nl; generalize u2.setCell ⟨N, 0, none⟩ (.int .i64 3) = f3 at *; replace HAT := Z_ HB.out.at_; have HN := Z_ (label_any HAT.out.pr); go_wp2_with fail
   refine HN.out.mono ?_
   rintro e u4 ⟨hC, s4, v, l4, b4, rfl, ⟨rfl, hb0s4, hb1s4⟩, hP, hrel⟩; replace HT := Z_ (now_bind HT.out HNE.out hrel); replace HBD := Z_ (rel_bad (b0 := b0) hrel (by first | exact HBD.out | exact fun _ => rfl | (intro e; have := HBD.out; simp_all))); replace HB := Z_ (HB.out.call hC hP); replace HAT := Z_ HB.out.at_; clear hC hP hrel HN; have hw : IntKind.i64.wrap (P + s4) = P + s4 := wrap_small _ (by omega) (by omega); have n0 := HB.out.nd.cell; have nf := HB.out.nd.frozen; have nl := HB.out.lt; go_upto_region 8 with (fail)
   replace HB := Z_ (HB.out.num (P + s4)); clear n0 nf nl; generalize u4.setCell ⟨N, 2, none⟩ (.int .i64 (P + s4)) = f5 at *; replace HAT := Z_ HB.out.at_; clear hw; have HN := Z_ (name_any3 HAT.out.pr); go_wp2_with fail
   refine HN.out.mono ?_
   rintro e u6 ⟨hC, s6, v, l6, b6, rfl, ⟨rfl, hss6⟩, hP, hrel⟩; replace HT := Z_ (now_bind HT.out HNE.out hrel); replace HBD := Z_ (rel_bad (b0 := b0) hrel (by first | exact HBD.out | exact fun _ => rfl | (intro e; have := HBD.out; simp_all))); replace HB := Z_ (HB.out.call hC hP); replace HAT := Z_ HB.out.at_; clear hC hP hrel HN; have n0 := HB.out.nd.cell; have nf := HB.out.nd.frozen; have nl := HB.out.lt; go_upto_region 9 with (fail)
   replace HB := Z_ (HB.out.text s6); clear n0 nf nl; generalize u6.setCell ⟨N, 1, none⟩ (.string s6) = f7 at *; replace HAT := Z_ HB.out.at_; have HN := Z_ (eat_any HAT.out.pr sBra (by decide)); have HY := Z_ (fun he => now_eat2 HT.out he); have HO := Z_ (fun he => now_not HT.out he); clear HT; generalize (!b6 && isB l6 [sBra]) = R at *; go_wp2_with fail
   refine HN.out.mono ?_
   rintro e u8 ⟨rfl, hC, hP⟩; cases R with
   | false =>
    replace hP : RdrAt W u8 S l6 b6 := by simpa using hP
    have HT := Z_ (HO.out (by trivial)); replace HB := Z_ (HB.out.call hC hP); replace HAT := Z_ HB.out.at_; clear hC hP HN HY HO; have HN := Z_ (must_any HAT.out.pr sSemi (by decide)); go_wp2_with fail
    refine HN.out.mono ?_
    rintro e u9 ⟨hC, _, _, l9, b9, rfl, rfl, hP, hrel⟩; replace HT := Z_ (now_bind HT.out HNE.out hrel); replace HBD := Z_ (rel_bad (b0 := b0) hrel (by first | exact HBD.out | exact fun _ => rfl | (intro e; have := HBD.out; simp_all))); replace HB := Z_ (HB.out.call hC hP); replace HAT := Z_ HB.out.at_; clear hC hP hrel HN; obtain ⟨ra, rc, hrow⟩ := HB.out.slice3
    first | subst hrow | clear hrow
    have n0 := HB.out.nd.cell; have r0 := HB.out.at_.res.cell; have rf := HB.out.at_.res.frozen; have rl := HB.out.at_.res.lt; unfold zeroNd at r0; go_wp2_with fail
    refine ends_at rfl rfl rfl ((((HB.out.at_.res.set 0 _).set 1 _).set 2 _).set 3 _) Tryz.underlying66 rfl (by kernel_rfl) ?_
    first | exact HB.out.ret (by omega) HT.out | (subst hA; exact HB.out.ret (by omega) HT.out)
   | true =>
    obtain ⟨hbf, HT0⟩ := HY.out (by trivial)
    first | subst hbf | clear hbf
    replace hP : RdrAt W u8 S l6.tail false := by simpa using hP
    have HT := Z_ (HT0 l6.tail); replace HB := Z_ (HB.out.call hC hP); replace HAT := Z_ HB.out.at_; clear hC hP HN HY HO HT0; obtain ⟨B, hB⟩ : ∃ B, u8.heap.size = B := ⟨_, rfl⟩; have hNB := HB.out.lt; have HOW := Z_ HB.out.own; rw [hB] at hNB HOW; have HN := Z_ (number_any HAT.out.pr); go_wp2_with fail
    refine HN.out.mono ?_
    rintro e u10 ⟨hC, x10, v10, l10, b10, rfl, hv, hP, hrel⟩; replace hrel : Rel (stO false l6.tail (pNumber l6.tail)) x10 l10 b10 := hrel; replace HT := Z_ (now_bind HT.out HNE.out hrel); replace HBD := Z_ (rel_bad (b0 := b0) hrel (by first | exact HBD.out | exact fun _ => rfl | (intro e; have := HBD.out; simp_all))); replace HB := Z_ (HB.out.call hC hP); replace HAT := Z_ HB.out.at_; obtain ⟨ka10, ta10, ma10, aa10, na10, ca10, rfl⟩ := nd_form hv; have HV10 := Z_ hv; have hsz10 : u8.heap.size ≤ u10.heap.size := hC.size; clear hC hP hrel hv HN; rw [hB] at HV10 hsz10; have HK := Z_ (Kid.start HV10.out hSN hNB (fun i e => (HOW.out i e).2) hsz10 (c := #[.int .i64 ka10, .string ta10, .int .i64 ma10, .slice aa10 na10 ca10]) rfl); have hEx := (Chg.refl (fun _ => False) u10).alloc (.cells #[.int .i64 ka10, .string ta10, .int .i64 ma10, .slice aa10 na10 ca10] 66)
    replace HB := Z_ (HB.out.extend hEx); replace HAT := Z_ HB.out.at_; clear hEx HOW; obtain ⟨XHK, hXHK⟩ : ∃ X, u10.heap.size = X := ⟨_, rfl⟩; rw [hXHK] at HK; go_upto_region 11 with (fail)
    generalize u10.alloc (.cells #[.int .i64 ka10, .string ta10, .int .i64 ma10, .slice aa10 na10 ca10] 66) = u9 at *; clear hB hNB hsz10 HV10; clear HAT; obtain ⟨us, hu1, ho, hu3⟩ := HB.out.grow.ex; have HO := Z_ ho; have HU := Z_ (And.intro hu1 hu3); have HOW := Z_ HB.out.own; clear ho hu1 hu3; have n0 := HB.out.nd.cell; have nf := HB.out.nd.frozen; have nl := HB.out.lt; have kc := HK.out.nd.cell; simp only [Value.cells] at kc; obtain ⟨i0_, hi, hz0, hz1, hz2⟩ := info_split info_node; go_upto_region 12 with (at_builtin; refine wpList_append_lies _ rfl _ _ 35 rfl (N + 1) 66 i0_ (.agg #[.int .i64 0, .string ⟨#[]⟩, .int .i64 0, .slice none 0 0]) 4 56 Tryz.underlying35 hi hz0 hz1 hz2 rfl (by decide) (.slice none 0 0) 0 (us.flatMap fun u => u.cells.toList) rfl (HO.out.alloc _) ⟨u9.heap.size, 0, none⟩ 1 1 [.int .i64 ka10, .string ta10, .int .i64 ma10, .slice aa10 na10 ca10] rfl rfl (by intro j q hj; have e : (⟨u9.heap.size, 0, none⟩ : Addr).add j = ⟨u9.heap.size, j, none⟩ := (by unfold Addr.add; split <;> simp_all); rw [e, (Blk.made u9 _ _).cell]; simpa using hj) (by intro q hq; simp at hq; rcases hq with rfl | rfl | rfl | rfl <;> rfl) (by decide) (by unfold maxLen; omega) (by omega) (by simp; omega) (u9.heap.size + 1) (by simp) ?_; intro g c' w4 hown hgrow hat hlt1; have HPU := Z_ (pushed HU.out.1 HU.out.2 HK.out.dat hown hgrow hat); have HBN := Z_ (grown_blk hgrow (HB.out.nd.alloc _) (fun e => by have := (HOW.out N e).1; omega)); have q1 := HBN.out.cell; have q1f := HBN.out.frozen; have q1l := HBN.out.lt; clear hown hgrow hat n0 nf nl kc HBN)
    obtain ⟨hG, hC, -⟩ := HPU.out; replace HB := Z_ (HB.out.more hG hC).put3; clear hG hC HPU q1 q1f q1l; simp only [List.length_nil, Nat.zero_add] at HB; generalize w4.setCell ⟨N, 3, none⟩ (.slice (some ⟨g, 0, none⟩) 1 c') = w6 at *; have HAT := Z_ HB.out.at_; have HN := Z_ (must_any HAT.out.pr sKet (by decide)); go_wp2_with fail
    refine HN.out.mono ?_
    rintro e u11 ⟨hC, _, _, l11, b11, rfl, rfl, hP, hrel⟩; replace HT := Z_ (now_bind HT.out HNE.out hrel); replace HBD := Z_ (rel_bad (b0 := b0) hrel (by first | exact HBD.out | exact fun _ => rfl | (intro e; have := HBD.out; simp_all))); replace HB := Z_ (HB.out.call hC hP); replace HAT := Z_ HB.out.at_; clear hC hP hrel HN; have HN := Z_ (must_any HAT.out.pr sSemi (by decide)); go_wp2_with fail
    refine HN.out.mono ?_
    rintro e u12 ⟨hC, _, _, l12, b12, rfl, rfl, hP, hrel⟩; replace HT := Z_ (now_bind HT.out HNE.out hrel); replace HBD := Z_ (rel_bad (b0 := b0) hrel (by first | exact HBD.out | exact fun _ => rfl | (intro e; have := HBD.out; simp_all))); replace HB := Z_ (HB.out.call hC hP); replace HAT := Z_ HB.out.at_; clear hC hP hrel HN; obtain ⟨ra, rc, hrow⟩ := HB.out.slice3
    first | subst hrow | clear hrow
    have n0 := HB.out.nd.cell; have r0 := HB.out.at_.res.cell; have rf := HB.out.at_.res.frozen; have rl := HB.out.at_.res.lt; unfold zeroNd at r0; go_wp2_with fail
    refine ends_at rfl rfl rfl ((((HB.out.at_.res.set 0 _).set 1 _).set 2 _).set 3 _) Tryz.underlying66 rfl (by kernel_rfl) ?_
    first | exact HB.out.ret (by omega) HT.out | (subst hA; exact HB.out.ret (by omega) HT.out)
  | true =>
   obtain ⟨hbf, HT0⟩ := HY.out (by trivial)
   first | subst hbf | clear hbf
   replace hP : RdrAt W u2 S l.tail false := by simpa using hP
   have HT := Z_ (HT0 l.tail); replace HB := Z_ (HB.out.call hC hP); replace HAT := Z_ HB.out.at_; clear hC hP HN HY HO HT0; obtain ⟨m, rfl⟩ : ∃ m, n = m + 1 := by cases n with | zero => exact absurd HT.out.symm HNE.out | succ m => exact ⟨m, rfl⟩
   have HT0 := HT.out; clear HT; simp only [prs] at HT0; have HT := Z_ HT0; clear HT0; have n0 := HB.out.nd.cell; have nf := HB.out.nd.frozen; have nl := HB.out.lt; go_upto_region 16 with (fail)
   replace HB := Z_ (HB.out.kind 4); clear n0 nf nl; generalize u2.setCell ⟨N, 0, none⟩ (.int .i64 4) = f13 at *; replace HAT := Z_ HB.out.at_; have HN := Z_ (name_any3 HAT.out.pr); go_wp2_with fail
   refine HN.out.mono ?_
   rintro e u14 ⟨hC, s14, v, l14, b14, rfl, ⟨rfl, hss14⟩, hP, hrel⟩; replace HT := Z_ (now_bind HT.out HNE.out hrel); replace HBD := Z_ (rel_bad (b0 := b0) hrel (by first | exact HBD.out | exact fun _ => rfl | (intro e; have := HBD.out; simp_all))); replace HB := Z_ (HB.out.call hC hP); replace HAT := Z_ HB.out.at_; clear hC hP hrel HN; have n0 := HB.out.nd.cell; have nf := HB.out.nd.frozen; have nl := HB.out.lt; go_upto_region 17 with (fail)
   replace HB := Z_ (HB.out.text s14); clear n0 nf nl; generalize u14.setCell ⟨N, 1, none⟩ (.string s14) = f15 at *; replace HAT := Z_ HB.out.at_; have HN := Z_ (must_any HAT.out.pr sOpen (by decide)); go_wp2_with fail
   refine HN.out.mono ?_
   rintro e u16 ⟨hC, _, _, l16, b16, rfl, rfl, hP, hrel⟩; replace HT := Z_ (now_bind HT.out HNE.out hrel); replace HBD := Z_ (rel_bad (b0 := b0) hrel (by first | exact HBD.out | exact fun _ => rfl | (intro e; have := HBD.out; simp_all))); replace HB := Z_ (HB.out.call hC hP); replace HAT := Z_ HB.out.at_; clear hC hP hrel HN; replace HT := Z_ (params_open HT.out HNE.out); have hL0 := HAT.out.pr.len; have HN := Z_ (text_is HAT.out.pr sClose (by decide) (q := [41]) rfl); have HY := Z_ (fun he => now_eat2 HT.out he); have HO := Z_ (fun he => now_not HT.out he); clear HT; generalize (!b16 && isB l16 [sClose]) = R at *; go_wp2_with fail
   refine HN.out.mono ?_
   rintro e u17 ⟨xt, rfl, hst, hE⟩; replace HB := Z_ (HB.out.extend hE); replace HAT := Z_ HB.out.at_; clear hE HN; cases R with
   | false =>
    have HT := Z_ (HO.out (by trivial)); clear HY HO; go_wp2_with fail
    go_loopg [6] (m + 1) (fun kk on wr => ∃ (o : Bool) (l2 : List Tk) (b2 : Bool) (acc : List Nd) (row : Value) (d : Nat), on = .bool o ∧ d ≤ m ∧ kk ≤ m + 1 ∧ Hid (b0 = true → b2 = true) ∧ Hid (stO b2 l2 (if o = true then parQ (kk - 1) s14 P acc l2 else doneQ d s14 P acc l2) = T) ∧ Hid (o = true → 1 ≤ kk) ∧ Hid (RBld W w wr S A N l2 b2 4 s14 P row row acc) ∧ Hid (b2 = false → acc.length + l2.length ≤ 10000) ∧ Hid (acc.length ≤ 10001 ∧ (o = true → acc.length ≤ 10000)))
    case atStart => exact ⟨true, l16, b16, [], .slice none 0 0, 0, rfl, Nat.zero_le _, Nat.le_refl _, HBD, HT, Z_ (fun _ => by omega), HB, Z_ (fun _ => by simpa using hL0), Z_ ⟨by simp, fun _ => by simp⟩⟩
    clear HT HB HAT HBD hL0
    case round =>
     obtain ⟨o, lr, br, acc, row, d, rfl, hdm, hkn, HBD, HT, HK1, HB, HLE, HLN⟩ := hrel; have HAT := Z_ HB.out.at_; cases o with
     | false =>
      replace HT := Z_ (show stO br lr (doneQ d s14 P acc lr) = T from HT.out); have hle := HLN.out.1; clear HLN HLE HK1; go_wp2_with fail
      have HT0 := HT.out; clear HT; simp only [doneQ] at HT0; have HT := Z_ HT0; clear HT0; have HN := Z_ (must_any HAT.out.pr sClose (by decide)); go_wp2_with fail
      refine HN.out.mono ?_
      rintro e u18 ⟨hC, _, _, l18, b18, rfl, rfl, hP, hrel⟩; replace HT := Z_ (now_bind HT.out HNE.out hrel); replace HBD := Z_ (rel_bad (b0 := b0) hrel (by first | exact HBD.out | exact fun _ => rfl | (intro e; have := HBD.out; simp_all))); replace HB := Z_ (HB.out.call hC hP); replace HAT := Z_ HB.out.at_; clear hC hP hrel HN; have HN := Z_ (label_any HAT.out.pr); go_wp2_with fail
      refine HN.out.mono ?_
      rintro e u19 ⟨hC, s19, v, l19, b19, rfl, ⟨rfl, hb0s19, hb1s19⟩, hP, hrel⟩; replace HT := Z_ (now_bind HT.out HNE.out hrel); replace HBD := Z_ (rel_bad (b0 := b0) hrel (by first | exact HBD.out | exact fun _ => rfl | (intro e; have := HBD.out; simp_all))); replace HB := Z_ (HB.out.call hC hP); replace HAT := Z_ HB.out.at_; clear hC hP hrel HN; have hw : IntKind.i64.wrap (P + s19) = P + s19 := wrap_small _ (by omega) (by omega); have n0 := HB.out.nd.cell; have nf := HB.out.nd.frozen; have nl := HB.out.lt; go_upto_region 29 with (fail)
      replace HB := Z_ (HB.out.num (P + s19)); clear n0 nf nl; generalize u19.setCell ⟨N, 2, none⟩ (.int .i64 (P + s19)) = f20 at *; replace HAT := Z_ HB.out.at_; clear hw; have HN := Z_ (eat_any HAT.out.pr sGives (by decide)); have HY := Z_ (fun he => now_eat2 HT.out he); have HO := Z_ (fun he => now_not HT.out he); clear HT; generalize (!b19 && isB l19 [sGives]) = R at *; go_wp2_with fail
      refine HN.out.mono ?_
      rintro e u21 ⟨rfl, hC, hP⟩; cases R with
      | false =>
       replace hP : RdrAt W u21 S l19 b19 := by simpa using hP
       have HT := Z_ (HO.out (by trivial)); replace HB := Z_ (HB.out.call hC hP); replace HAT := Z_ HB.out.at_; clear hC hP HN HY HO; obtain ⟨B, hB⟩ : ∃ B, u21.heap.size = B := ⟨_, rfl⟩; have hNB := HB.out.lt; have HOW := Z_ HB.out.own; rw [hB] at hNB HOW; have HN := Z_ ((dK (d - 1) (by omega)) _ _ HAT.out.pr (by first | exact HBD.out | exact fun _ => rfl | (intro e; have := HBD.out; simp_all)) (fun e => by cases e) rfl trivial (now_ne HT.out HNE.out)); go_wp2_with fail
       refine HN.out.mono ?_
       rintro e u22 ⟨hC, x22, v22, l22, b22, rfl, hv, hP, hrel⟩; replace HT := Z_ (now_bind HT.out HNE.out hrel); replace HBD := Z_ (rel_bad (b0 := b0) hrel (by first | exact HBD.out | exact fun _ => rfl | (intro e; have := HBD.out; simp_all))); replace HB := Z_ (HB.out.call hC hP); replace HAT := Z_ HB.out.at_; obtain ⟨ka22, ta22, ma22, aa22, na22, ca22, rfl⟩ := nd_form hv; have HV22 := Z_ hv; have hsz22 : u21.heap.size ≤ u22.heap.size := hC.size; clear hC hP hrel hv HN; rw [hB] at HV22 hsz22; have HK := Z_ (Kid.start HV22.out hSN hNB (fun i e => (HOW.out i e).2) hsz22 (c := #[.int .i64 ka22, .string ta22, .int .i64 ma22, .slice aa22 na22 ca22]) rfl); have hEx := (Chg.refl (fun _ => False) u22).alloc (.cells #[.int .i64 ka22, .string ta22, .int .i64 ma22, .slice aa22 na22 ca22] 66); replace HB := Z_ (HB.out.extend hEx); replace HAT := Z_ HB.out.at_
       clear hEx HOW; obtain ⟨XHK, hXHK⟩ : ∃ X, u22.heap.size = X := ⟨_, rfl⟩; rw [hXHK] at HK; go_upto_region 33 with (fail)
       generalize u22.alloc (.cells #[.int .i64 ka22, .string ta22, .int .i64 ma22, .slice aa22 na22 ca22] 66) = u9 at *; clear hB hNB hsz22 HV22; clear HAT; obtain ⟨ra, rc, hrow⟩ := HB.out.slice3
       first | subst hrow | (have e1 := (Value.slice.inj hrow).1; have e3 := (Value.slice.inj hrow).2.2; subst e1; subst e3)
       obtain ⟨us, hu1, ho, hu3⟩ := HB.out.grow.ex; have HO := Z_ ho; have HU := Z_ (And.intro hu1 hu3); have HOW := Z_ HB.out.own; clear ho hu1 hu3; have n0 := HB.out.nd.cell; have nf := HB.out.nd.frozen; have nl := HB.out.lt; have kc := HK.out.nd.cell; simp only [Value.cells] at kc; obtain ⟨i0_, hi, hz0, hz1, hz2⟩ := info_split info_node; go_upto_region 34 with (at_builtin; refine wpList_append_lies _ rfl _ _ 35 rfl (N + 1) 66 i0_ (.agg #[.int .i64 0, .string ⟨#[]⟩, .int .i64 0, .slice none 0 0]) 4 56 Tryz.underlying35 hi hz0 hz1 hz2 rfl (by decide) (.slice ra acc.length rc) acc.length (us.flatMap fun u => u.cells.toList) rfl (HO.out.alloc _) ⟨u9.heap.size, 0, none⟩ 1 1 [.int .i64 ka22, .string ta22, .int .i64 ma22, .slice aa22 na22 ca22] rfl rfl (by intro j q hj; have e : (⟨u9.heap.size, 0, none⟩ : Addr).add j = ⟨u9.heap.size, j, none⟩ := (by unfold Addr.add; split <;> simp_all); rw [e, (Blk.made u9 _ _).cell]; simpa using hj) (by intro q hq; simp at hq; rcases hq with rfl | rfl | rfl | rfl <;> rfl) (by decide) (by unfold maxLen; omega) (by omega) (by simp; omega) (u9.heap.size + 1) (by simp) ?_; intro g c' w4 hown hgrow hat hlt1; have HPU := Z_ (pushed HU.out.1 HU.out.2 HK.out.dat hown hgrow hat); have HBN := Z_ (grown_blk hgrow (HB.out.nd.alloc _) (fun e => by have := (HOW.out N e).1; omega)); have q1 := HBN.out.cell; have q1f := HBN.out.frozen; have q1l := HBN.out.lt; clear hown hgrow hat n0 nf nl kc HBN)
       obtain ⟨hG, hC, -⟩ := HPU.out; replace HB := Z_ (HB.out.more hG hC).put3; clear hG hC HPU q1 q1f q1l; generalize w4.setCell ⟨N, 3, none⟩ (.slice (some ⟨g, 0, none⟩) (acc.length + 1) c') = w6 at *; have HAT := Z_ HB.out.at_; obtain ⟨ra, rc, hrow⟩ := HB.out.slice3
       first | subst hrow | clear hrow
       have n0 := HB.out.nd.cell; have r0 := HB.out.at_.res.cell; have rf := HB.out.at_.res.frozen; have rl := HB.out.at_.res.lt; unfold zeroNd at r0; go_wp2_with fail
       refine ends_at rfl rfl rfl ((((HB.out.at_.res.set 0 _).set 1 _).set 2 _).set 3 _) Tryz.underlying66 rfl (by kernel_rfl) ?_
       first | exact HB.out.ret (by omega) HT.out | (subst hA; exact HB.out.ret (by omega) HT.out)
      | true =>
       obtain ⟨hbf, HT0⟩ := HY.out (by trivial)
       first | subst hbf | clear hbf
       replace hP : RdrAt W u21 S l19.tail false := by simpa using hP
       have HT := Z_ (HT0 l19.tail); replace HB := Z_ (HB.out.call hC hP); replace HAT := Z_ HB.out.at_; clear hC hP HN HY HO HT0; have HN := Z_ (label_any HAT.out.pr); go_wp2_with fail
       refine HN.out.mono ?_
       rintro e u23 ⟨hC, s23, v, l23, b23, rfl, ⟨rfl, hb0s23, hb1s23⟩, hP, hrel⟩; replace HT := Z_ (now_bind HT.out HNE.out hrel); replace HBD := Z_ (rel_bad (b0 := b0) hrel (by first | exact HBD.out | exact fun _ => rfl | (intro e; have := HBD.out; simp_all))); replace HB := Z_ (HB.out.call hC hP); replace HAT := Z_ HB.out.at_; clear hC hP hrel HN; have hw1 : IntKind.i64.wrap (P + s19 + 4) = P + s19 + 4 := wrap_small _ (by omega) (by omega); have hw2 : IntKind.i64.wrap (4 * s23) = 4 * s23 := wrap_small _ (by omega) (by omega); have hw3 : IntKind.i64.wrap (P + s19 + 4 + 4 * s23) = P + s19 + (4 + 4 * s23) := by rw [wrap_small _ (by omega) (by omega)]; omega
       have n0 := HB.out.nd.cell; have nf := HB.out.nd.frozen; have nl := HB.out.lt; go_upto_region 32 with (fail)
       replace HB := Z_ (HB.out.num (P + s19 + (4 + 4 * s23))); clear n0 nf nl; generalize u23.setCell ⟨N, 2, none⟩ (.int .i64 (P + s19 + (4 + 4 * s23))) = f24 at *; replace HAT := Z_ HB.out.at_; clear hw1 hw2 hw3; obtain ⟨B, hB⟩ : ∃ B, f24.heap.size = B := ⟨_, rfl⟩; have hNB := HB.out.lt; have HOW := Z_ HB.out.own; rw [hB] at hNB HOW; have HN := Z_ ((dK (d - 1) (by omega)) _ _ HAT.out.pr (by first | exact HBD.out | exact fun _ => rfl | (intro e; have := HBD.out; simp_all)) (fun e => by cases e) rfl trivial (now_ne HT.out HNE.out)); go_wp2_with fail
       refine HN.out.mono ?_
       rintro e u25 ⟨hC, x25, v25, l25, b25, rfl, hv, hP, hrel⟩; replace HT := Z_ (now_bind HT.out HNE.out hrel); replace HBD := Z_ (rel_bad (b0 := b0) hrel (by first | exact HBD.out | exact fun _ => rfl | (intro e; have := HBD.out; simp_all))); replace HB := Z_ (HB.out.call hC hP); replace HAT := Z_ HB.out.at_; obtain ⟨ka25, ta25, ma25, aa25, na25, ca25, rfl⟩ := nd_form hv; have HV25 := Z_ hv; have hsz25 : f24.heap.size ≤ u25.heap.size := hC.size; clear hC hP hrel hv HN; rw [hB] at HV25 hsz25; have HK := Z_ (Kid.start HV25.out hSN hNB (fun i e => (HOW.out i e).2) hsz25 (c := #[.int .i64 ka25, .string ta25, .int .i64 ma25, .slice aa25 na25 ca25]) rfl); have hEx := (Chg.refl (fun _ => False) u25).alloc (.cells #[.int .i64 ka25, .string ta25, .int .i64 ma25, .slice aa25 na25 ca25] 66); replace HB := Z_ (HB.out.extend hEx); replace HAT := Z_ HB.out.at_
       clear hEx HOW; obtain ⟨XHK, hXHK⟩ : ∃ X, u25.heap.size = X := ⟨_, rfl⟩; rw [hXHK] at HK; go_upto_region 33 with (fail)
       generalize u25.alloc (.cells #[.int .i64 ka25, .string ta25, .int .i64 ma25, .slice aa25 na25 ca25] 66) = u9 at *; clear hB hNB hsz25 HV25; clear HAT; obtain ⟨ra, rc, hrow⟩ := HB.out.slice3
       first | subst hrow | (have e1 := (Value.slice.inj hrow).1; have e3 := (Value.slice.inj hrow).2.2; subst e1; subst e3)
       obtain ⟨us, hu1, ho, hu3⟩ := HB.out.grow.ex; have HO := Z_ ho; have HU := Z_ (And.intro hu1 hu3); have HOW := Z_ HB.out.own; clear ho hu1 hu3; have n0 := HB.out.nd.cell; have nf := HB.out.nd.frozen; have nl := HB.out.lt; have kc := HK.out.nd.cell; simp only [Value.cells] at kc; obtain ⟨i0_, hi, hz0, hz1, hz2⟩ := info_split info_node; go_upto_region 34 with (at_builtin; refine wpList_append_lies _ rfl _ _ 35 rfl (N + 1) 66 i0_ (.agg #[.int .i64 0, .string ⟨#[]⟩, .int .i64 0, .slice none 0 0]) 4 56 Tryz.underlying35 hi hz0 hz1 hz2 rfl (by decide) (.slice ra acc.length rc) acc.length (us.flatMap fun u => u.cells.toList) rfl (HO.out.alloc _) ⟨u9.heap.size, 0, none⟩ 1 1 [.int .i64 ka25, .string ta25, .int .i64 ma25, .slice aa25 na25 ca25] rfl rfl (by intro j q hj; have e : (⟨u9.heap.size, 0, none⟩ : Addr).add j = ⟨u9.heap.size, j, none⟩ := (by unfold Addr.add; split <;> simp_all); rw [e, (Blk.made u9 _ _).cell]; simpa using hj) (by intro q hq; simp at hq; rcases hq with rfl | rfl | rfl | rfl <;> rfl) (by decide) (by unfold maxLen; omega) (by omega) (by simp; omega) (u9.heap.size + 1) (by simp) ?_; intro g c' w4 hown hgrow hat hlt1; have HPU := Z_ (pushed HU.out.1 HU.out.2 HK.out.dat hown hgrow hat); have HBN := Z_ (grown_blk hgrow (HB.out.nd.alloc _) (fun e => by have := (HOW.out N e).1; omega)); have q1 := HBN.out.cell; have q1f := HBN.out.frozen; have q1l := HBN.out.lt; clear hown hgrow hat n0 nf nl kc HBN)
       obtain ⟨hG, hC, -⟩ := HPU.out; replace HB := Z_ (HB.out.more hG hC).put3; clear hG hC HPU q1 q1f q1l; generalize w4.setCell ⟨N, 3, none⟩ (.slice (some ⟨g, 0, none⟩) (acc.length + 1) c') = w6 at *; have HAT := Z_ HB.out.at_; obtain ⟨ra, rc, hrow⟩ := HB.out.slice3
       first | subst hrow | clear hrow
       have n0 := HB.out.nd.cell; have r0 := HB.out.at_.res.cell; have rf := HB.out.at_.res.frozen; have rl := HB.out.at_.res.lt; unfold zeroNd at r0; go_wp2_with fail
       refine ends_at rfl rfl rfl ((((HB.out.at_.res.set 0 _).set 1 _).set 2 _).set 3 _) Tryz.underlying66 rfl (by kernel_rfl) ?_
       first | exact HB.out.ret (by omega) HT.out | (subst hA; exact HB.out.ret (by omega) HT.out)
     | true =>
      replace HT := Z_ (show stO br lr (parQ (gk - 1) s14 P acc lr) = T from HT.out); have hle := HLN.out.2 rfl; have hgk := HK1.out rfl; clear HLN HK1; have HT0 := HT.out; clear HT; simp only [parQ] at HT0; have HT := Z_ HT0; clear HT0; have HB0 := HB; have HX := Z_ (Blk.made wr #[.int .i64 5, .string ⟨#[]⟩, .int .i64 0, .slice none 0 0] 66); have HC0 : Hid (Chg (fun i => i = S) wr (wr.alloc (.cells #[.int .i64 5, .string ⟨#[]⟩, .int .i64 0, .slice none 0 0] 66))) := Z_ ((Chg.refl _ wr).alloc _); replace HB := Z_ (HB.out.extend ((Chg.refl _ _).alloc (.cells #[.int .i64 5, .string ⟨#[]⟩, .int .i64 0, .slice none 0 0] 66))); replace HAT := Z_ HB.out.at_; obtain ⟨X, hX⟩ : ∃ X, wr.heap.size = X := ⟨_, rfl⟩; rw [hX] at HX; have hNX : N < X := by have := HB0.out.lt; omega
      have hXs : wr.heap.size ≤ X := by omega
      go_upto_region 23 with (fail)
      generalize wr.alloc (.cells #[.int .i64 5, .string ⟨#[]⟩, .int .i64 0, .slice none 0 0] 66) = x0 at *; have HN := Z_ (label_any HAT.out.pr); go_wp2_with fail
      refine HN.out.mono ?_
      rintro e u26 ⟨hC, s26, v, l26, b26, rfl, ⟨rfl, hb0s26, hb1s26⟩, hP, hrel⟩; replace HT := Z_ (now_bind HT.out HNE.out hrel); replace HBD := Z_ (rel_bad (b0 := b0) hrel (by first | exact HBD.out | exact fun _ => rfl | (intro e; have := HBD.out; simp_all))); replace HB := Z_ (HB.out.call hC hP); replace HAT := Z_ HB.out.at_; replace HC0 := Z_ (HC0.out.then hC); replace HX := Z_ (HX.out.chg hC (by omega)); replace HLE := Z_ (rel_len (q := 1) hrel (fun _ _ hp => by have := synm.label_lt hp; omega) (pLabel_ne _) HLE.out); clear hC hP hrel HN; have x0_ := HX.out.cell; have xf := HX.out.frozen; have xl := HX.out.lt; go_upto_region 24 with (fail)
      replace HX := Z_ (HX.out.set 2 (.int .i64 s26)); replace HC0 := Z_ (HC0.out.setNew (p := ⟨X, 2, none⟩) hXs (.int .i64 s26)); have HPX := Z_ (HB.out.at_.pr.chg (chg_set (S := X) (Chg.refl _ _) 2 (.int .i64 s26)) (by omega) (fun i e => by have := HB.out.at_.pr.hS; omega)); clear x0_ xf xl HB HAT; generalize u26.setCell ⟨X, 2, none⟩ (.int .i64 s26) = f27 at *; have HB := Z_ (HB0.out.call HC0.out HPX.out); have HAT := Z_ HB.out.at_; clear HPX; have HN := Z_ (name_any3 HAT.out.pr); go_wp2_with fail
      refine HN.out.mono ?_
      rintro e u28 ⟨hC, s28, v, l28, b28, rfl, ⟨rfl, hss28⟩, hP, hrel⟩; replace HT := Z_ (now_bind HT.out HNE.out hrel); replace HBD := Z_ (rel_bad (b0 := b0) hrel (by first | exact HBD.out | exact fun _ => rfl | (intro e; have := HBD.out; simp_all))); replace HB := Z_ (HB.out.call hC hP); replace HAT := Z_ HB.out.at_; replace HC0 := Z_ (HC0.out.then hC); replace HX := Z_ (HX.out.chg hC (by omega)); replace HLE := Z_ (rel_len (q := 0) hrel (fun _ _ hp => by have := synm.name_lt hp; omega) (pName_ne _) HLE.out); clear hC hP hrel HN; have x0_ := HX.out.cell; have xf := HX.out.frozen; have xl := HX.out.lt; go_upto_region 25 with (fail)
      replace HX := Z_ (HX.out.set 1 (.string s28)); replace HC0 := Z_ (HC0.out.setNew (p := ⟨X, 1, none⟩) hXs (.string s28)); have HPX := Z_ (HB.out.at_.pr.chg (chg_set (S := X) (Chg.refl _ _) 1 (.string s28)) (by omega) (fun i e => by have := HB.out.at_.pr.hS; omega)); clear x0_ xf xl HB HAT; generalize u28.setCell ⟨X, 1, none⟩ (.string s28) = f29 at *; have HB := Z_ (HB0.out.call HC0.out HPX.out); have HAT := Z_ HB.out.at_; clear HPX; have HK := Z_ (Kid.leaf HB0.out hXs HX.out (by omega) hSN); clear HB0 HC0 HX HAT hXs; obtain ⟨ra, rc, hrow⟩ := HB.out.slice3
      first | subst hrow | (have e1 := (Value.slice.inj hrow).1; have e3 := (Value.slice.inj hrow).2.2; subst e1; subst e3)
      obtain ⟨us, hu1, ho, hu3⟩ := HB.out.grow.ex; have HO := Z_ ho; have HU := Z_ (And.intro hu1 hu3); have HOW := Z_ HB.out.own; clear ho hu1 hu3; have n0 := HB.out.nd.cell; have nf := HB.out.nd.frozen; have nl := HB.out.lt; have kc := HK.out.nd.cell; simp only [Value.cells] at kc; obtain ⟨i0_, hi, hz0, hz1, hz2⟩ := info_split info_node; go_upto_region 21 with (at_builtin; refine wpList_append_lies _ rfl _ _ 35 rfl (N + 1) 66 i0_ (.agg #[.int .i64 0, .string ⟨#[]⟩, .int .i64 0, .slice none 0 0]) 4 56 Tryz.underlying35 hi hz0 hz1 hz2 rfl (by decide) (.slice ra acc.length rc) acc.length (us.flatMap fun u => u.cells.toList) rfl (HO.out.alloc _) ⟨f29.heap.size, 0, none⟩ 1 1 [.int .i64 5, .string s28, .int .i64 s26, .slice none 0 0] rfl rfl (by intro j q hj; have e : (⟨f29.heap.size, 0, none⟩ : Addr).add j = ⟨f29.heap.size, j, none⟩ := (by unfold Addr.add; split <;> simp_all); rw [e, (Blk.made f29 _ _).cell]; simpa using hj) (by intro q hq; simp at hq; rcases hq with rfl | rfl | rfl | rfl <;> rfl) (by decide) (by unfold maxLen; omega) (by omega) (by simp; omega) (f29.heap.size + 1) (by simp) ?_; intro g c' w4 hown hgrow hat hlt1; have HPU := Z_ (pushed HU.out.1 HU.out.2 HK.out.dat hown hgrow hat); have HBN := Z_ (grown_blk hgrow (HB.out.nd.alloc _) (fun e => by have := (HOW.out N e).1; omega)); have q1 := HBN.out.cell; have q1f := HBN.out.frozen; have q1l := HBN.out.lt; clear hown hgrow hat n0 nf nl kc HBN)
      obtain ⟨hG, hC, -⟩ := HPU.out; replace HB := Z_ (HB.out.more hG hC).put3; clear hG hC HPU q1 q1f q1l; generalize w4.setCell ⟨N, 3, none⟩ (.slice (some ⟨g, 0, none⟩) (acc.length + 1) c') = w6 at *; have HAT := Z_ HB.out.at_; have HN := Z_ (eat_any HAT.out.pr sComma (by decide)); have HY := Z_ (fun he => now_eat2 HT.out he); have HO := Z_ (fun he => now_not HT.out he); clear HT; generalize (!b28 && isB l28 [sComma]) = R at *; go_wp2_with fail
      refine HN.out.mono ?_
      rintro e u30 ⟨rfl, hC, hP⟩; cases R with
      | false =>
       replace hP : RdrAt W u30 S l28 b28 := by simpa using hP
       have HT := Z_ (HO.out (by trivial)); replace HB := Z_ (HB.out.call hC hP); replace HAT := Z_ HB.out.at_; clear hC hP HN HY HO; go_wp2_with fail
       go_roundg 0
       case rel => exact ⟨false, l28, b28, acc ++ [Nd.mk 5 s28 s26 []], _, gk - 1, rfl, by omega, by omega, HBD, HT, Z_ (fun e => by cases e), HB, Z_ (fun e => by have := HLE.out e; simp only [List.length_append, List.length_singleton] at this ⊢; omega), Z_ ⟨by simp only [List.length_append, List.length_singleton]; omega, fun e => by cases e⟩⟩
       case measure => omega
      | true =>
       obtain ⟨hbf, HT0⟩ := HY.out (by trivial)
       first | subst hbf | clear hbf
       replace hP : RdrAt W u30 S l28.tail false := by simpa using hP
       have HT := Z_ (HT0 l28.tail); replace HB := Z_ (HB.out.call hC hP); replace HAT := Z_ HB.out.at_; clear hC hP HN HY HO HT0
       obtain ⟨j, rfl⟩ : ∃ j, gk = j + 2 := by
        rcases gk with _ | _ | j
        ·omega
        ·exact absurd HT.out.symm HNE.out
        ·exact ⟨j, rfl⟩
       go_wp2_with fail
       go_roundg (j + 1)
       case rel => exact ⟨true, l28.tail, false, acc ++ [Nd.mk 5 s28 s26 []], _, 0, rfl, Nat.zero_le _, by omega, HBD, Z_ (params_next (n := j) HT.out HNE.out), Z_ (fun _ => by omega), HB, Z_ (fun e => by have := HLE.out (by trivial); simp only [List.length_append, List.length_singleton, List.length_tail] at this ⊢; omega), Z_ ⟨by simp only [List.length_append, List.length_singleton]; omega, fun e => by have := HLE.out (by trivial); simp only [List.length_append, List.length_singleton] at this ⊢; omega⟩⟩
       case measure => omega
   | true =>
    obtain ⟨hbf, HT0⟩ := HY.out (by trivial)
    first | subst hbf | clear hbf
    have HT := Z_ (HT0 l16); clear HY HO HT0; clear hL0; have HT0 := HT.out; clear HT; simp only [doneQ] at HT0; have HT := Z_ HT0; clear HT0; have HN := Z_ (must_any HAT.out.pr sClose (by decide)); go_wp2_with fail
    refine HN.out.mono ?_
    rintro e u31 ⟨hC, _, _, l31, b31, rfl, rfl, hP, hrel⟩; replace HT := Z_ (now_bind HT.out HNE.out hrel); replace HBD := Z_ (rel_bad (b0 := b0) hrel (by first | exact HBD.out | exact fun _ => rfl | (intro e; have := HBD.out; simp_all))); replace HB := Z_ (HB.out.call hC hP); replace HAT := Z_ HB.out.at_; clear hC hP hrel HN; have HN := Z_ (label_any HAT.out.pr); go_wp2_with fail
    refine HN.out.mono ?_
    rintro e u32 ⟨hC, s32, v, l32, b32, rfl, ⟨rfl, hb0s32, hb1s32⟩, hP, hrel⟩; replace HT := Z_ (now_bind HT.out HNE.out hrel); replace HBD := Z_ (rel_bad (b0 := b0) hrel (by first | exact HBD.out | exact fun _ => rfl | (intro e; have := HBD.out; simp_all))); replace HB := Z_ (HB.out.call hC hP); replace HAT := Z_ HB.out.at_; clear hC hP hrel HN; have hw : IntKind.i64.wrap (P + s32) = P + s32 := wrap_small _ (by omega) (by omega); have n0 := HB.out.nd.cell; have nf := HB.out.nd.frozen; have nl := HB.out.lt; go_upto_region 29 with (fail)
    replace HB := Z_ (HB.out.num (P + s32)); clear n0 nf nl; generalize u32.setCell ⟨N, 2, none⟩ (.int .i64 (P + s32)) = f33 at *; replace HAT := Z_ HB.out.at_; clear hw; have HN := Z_ (eat_any HAT.out.pr sGives (by decide)); have HY := Z_ (fun he => now_eat2 HT.out he); have HO := Z_ (fun he => now_not HT.out he); clear HT; generalize (!b32 && isB l32 [sGives]) = R at *; go_wp2_with fail
    refine HN.out.mono ?_
    rintro e u34 ⟨rfl, hC, hP⟩; cases R with
    | false =>
     replace hP : RdrAt W u34 S l32 b32 := by simpa using hP
     have HT := Z_ (HO.out (by trivial)); replace HB := Z_ (HB.out.call hC hP); replace HAT := Z_ HB.out.at_; clear hC hP HN HY HO; obtain ⟨B, hB⟩ : ∃ B, u34.heap.size = B := ⟨_, rfl⟩; have hNB := HB.out.lt; have HOW := Z_ HB.out.own; rw [hB] at hNB HOW; have HN := Z_ ((dK (m - 1) (by omega)) _ _ HAT.out.pr (by first | exact HBD.out | exact fun _ => rfl | (intro e; have := HBD.out; simp_all)) (fun e => by cases e) rfl trivial (now_ne HT.out HNE.out)); go_wp2_with fail
     refine HN.out.mono ?_
     rintro e u35 ⟨hC, x35, v35, l35, b35, rfl, hv, hP, hrel⟩; replace HT := Z_ (now_bind HT.out HNE.out hrel); replace HBD := Z_ (rel_bad (b0 := b0) hrel (by first | exact HBD.out | exact fun _ => rfl | (intro e; have := HBD.out; simp_all))); replace HB := Z_ (HB.out.call hC hP); replace HAT := Z_ HB.out.at_; obtain ⟨ka35, ta35, ma35, aa35, na35, ca35, rfl⟩ := nd_form hv; have HV35 := Z_ hv; have hsz35 : u34.heap.size ≤ u35.heap.size := hC.size; clear hC hP hrel hv HN; rw [hB] at HV35 hsz35; have HK := Z_ (Kid.start HV35.out hSN hNB (fun i e => (HOW.out i e).2) hsz35 (c := #[.int .i64 ka35, .string ta35, .int .i64 ma35, .slice aa35 na35 ca35]) rfl); have hEx := (Chg.refl (fun _ => False) u35).alloc (.cells #[.int .i64 ka35, .string ta35, .int .i64 ma35, .slice aa35 na35 ca35] 66); replace HB := Z_ (HB.out.extend hEx); replace HAT := Z_ HB.out.at_
     clear hEx HOW; obtain ⟨XHK, hXHK⟩ : ∃ X, u35.heap.size = X := ⟨_, rfl⟩; rw [hXHK] at HK; go_upto_region 33 with (fail)
     generalize u35.alloc (.cells #[.int .i64 ka35, .string ta35, .int .i64 ma35, .slice aa35 na35 ca35] 66) = u9 at *; clear hB hNB hsz35 HV35; clear HAT; obtain ⟨us, hu1, ho, hu3⟩ := HB.out.grow.ex; have HO := Z_ ho; have HU := Z_ (And.intro hu1 hu3); have HOW := Z_ HB.out.own; clear ho hu1 hu3; have n0 := HB.out.nd.cell; have nf := HB.out.nd.frozen; have nl := HB.out.lt; have kc := HK.out.nd.cell; simp only [Value.cells] at kc; obtain ⟨i0_, hi, hz0, hz1, hz2⟩ := info_split info_node; go_upto_region 34 with (at_builtin; refine wpList_append_lies _ rfl _ _ 35 rfl (N + 1) 66 i0_ (.agg #[.int .i64 0, .string ⟨#[]⟩, .int .i64 0, .slice none 0 0]) 4 56 Tryz.underlying35 hi hz0 hz1 hz2 rfl (by decide) (.slice none 0 0) 0 (us.flatMap fun u => u.cells.toList) rfl (HO.out.alloc _) ⟨u9.heap.size, 0, none⟩ 1 1 [.int .i64 ka35, .string ta35, .int .i64 ma35, .slice aa35 na35 ca35] rfl rfl (by intro j q hj; have e : (⟨u9.heap.size, 0, none⟩ : Addr).add j = ⟨u9.heap.size, j, none⟩ := (by unfold Addr.add; split <;> simp_all); rw [e, (Blk.made u9 _ _).cell]; simpa using hj) (by intro q hq; simp at hq; rcases hq with rfl | rfl | rfl | rfl <;> rfl) (by decide) (by unfold maxLen; omega) (by omega) (by simp; omega) (u9.heap.size + 1) (by simp) ?_; intro g c' w4 hown hgrow hat hlt1; have HPU := Z_ (pushed HU.out.1 HU.out.2 HK.out.dat hown hgrow hat); have HBN := Z_ (grown_blk hgrow (HB.out.nd.alloc _) (fun e => by have := (HOW.out N e).1; omega)); have q1 := HBN.out.cell; have q1f := HBN.out.frozen; have q1l := HBN.out.lt; clear hown hgrow hat n0 nf nl kc HBN)
     obtain ⟨hG, hC, -⟩ := HPU.out; replace HB := Z_ (HB.out.more hG hC).put3; clear hG hC HPU q1 q1f q1l; simp only [List.length_nil, Nat.zero_add] at HB; generalize w4.setCell ⟨N, 3, none⟩ (.slice (some ⟨g, 0, none⟩) 1 c') = w6 at *; have HAT := Z_ HB.out.at_; obtain ⟨ra, rc, hrow⟩ := HB.out.slice3
     first | subst hrow | clear hrow
     have n0 := HB.out.nd.cell; have r0 := HB.out.at_.res.cell; have rf := HB.out.at_.res.frozen; have rl := HB.out.at_.res.lt; unfold zeroNd at r0; go_wp2_with fail
     refine ends_at rfl rfl rfl ((((HB.out.at_.res.set 0 _).set 1 _).set 2 _).set 3 _) Tryz.underlying66 rfl (by kernel_rfl) ?_
     first | exact HB.out.ret (by omega) HT.out | (subst hA; exact HB.out.ret (by omega) HT.out)
    | true =>
     obtain ⟨hbf, HT0⟩ := HY.out (by trivial)
     first | subst hbf | clear hbf
     replace hP : RdrAt W u34 S l32.tail false := by simpa using hP
     have HT := Z_ (HT0 l32.tail); replace HB := Z_ (HB.out.call hC hP); replace HAT := Z_ HB.out.at_; clear hC hP HN HY HO HT0; have HN := Z_ (label_any HAT.out.pr); go_wp2_with fail
     refine HN.out.mono ?_
     rintro e u36 ⟨hC, s36, v, l36, b36, rfl, ⟨rfl, hb0s36, hb1s36⟩, hP, hrel⟩; replace HT := Z_ (now_bind HT.out HNE.out hrel); replace HBD := Z_ (rel_bad (b0 := b0) hrel (by first | exact HBD.out | exact fun _ => rfl | (intro e; have := HBD.out; simp_all))); replace HB := Z_ (HB.out.call hC hP); replace HAT := Z_ HB.out.at_; clear hC hP hrel HN; have hw1 : IntKind.i64.wrap (P + s32 + 4) = P + s32 + 4 := wrap_small _ (by omega) (by omega); have hw2 : IntKind.i64.wrap (4 * s36) = 4 * s36 := wrap_small _ (by omega) (by omega); have hw3 : IntKind.i64.wrap (P + s32 + 4 + 4 * s36) = P + s32 + (4 + 4 * s36) := by rw [wrap_small _ (by omega) (by omega)]; omega
     have n0 := HB.out.nd.cell; have nf := HB.out.nd.frozen; have nl := HB.out.lt; go_upto_region 32 with (fail)
     replace HB := Z_ (HB.out.num (P + s32 + (4 + 4 * s36))); clear n0 nf nl; generalize u36.setCell ⟨N, 2, none⟩ (.int .i64 (P + s32 + (4 + 4 * s36))) = f37 at *; replace HAT := Z_ HB.out.at_; clear hw1 hw2 hw3; obtain ⟨B, hB⟩ : ∃ B, f37.heap.size = B := ⟨_, rfl⟩; have hNB := HB.out.lt; have HOW := Z_ HB.out.own; rw [hB] at hNB HOW; have HN := Z_ ((dK (m - 1) (by omega)) _ _ HAT.out.pr (by first | exact HBD.out | exact fun _ => rfl | (intro e; have := HBD.out; simp_all)) (fun e => by cases e) rfl trivial (now_ne HT.out HNE.out)); go_wp2_with fail
     refine HN.out.mono ?_
     rintro e u38 ⟨hC, x38, v38, l38, b38, rfl, hv, hP, hrel⟩; replace HT := Z_ (now_bind HT.out HNE.out hrel); replace HBD := Z_ (rel_bad (b0 := b0) hrel (by first | exact HBD.out | exact fun _ => rfl | (intro e; have := HBD.out; simp_all))); replace HB := Z_ (HB.out.call hC hP); replace HAT := Z_ HB.out.at_; obtain ⟨ka38, ta38, ma38, aa38, na38, ca38, rfl⟩ := nd_form hv; have HV38 := Z_ hv; have hsz38 : f37.heap.size ≤ u38.heap.size := hC.size; clear hC hP hrel hv HN; rw [hB] at HV38 hsz38; have HK := Z_ (Kid.start HV38.out hSN hNB (fun i e => (HOW.out i e).2) hsz38 (c := #[.int .i64 ka38, .string ta38, .int .i64 ma38, .slice aa38 na38 ca38]) rfl); have hEx := (Chg.refl (fun _ => False) u38).alloc (.cells #[.int .i64 ka38, .string ta38, .int .i64 ma38, .slice aa38 na38 ca38] 66); replace HB := Z_ (HB.out.extend hEx); replace HAT := Z_ HB.out.at_
     clear hEx HOW; obtain ⟨XHK, hXHK⟩ : ∃ X, u38.heap.size = X := ⟨_, rfl⟩; rw [hXHK] at HK; go_upto_region 33 with (fail)
     generalize u38.alloc (.cells #[.int .i64 ka38, .string ta38, .int .i64 ma38, .slice aa38 na38 ca38] 66) = u9 at *; clear hB hNB hsz38 HV38; clear HAT; obtain ⟨us, hu1, ho, hu3⟩ := HB.out.grow.ex; have HO := Z_ ho; have HU := Z_ (And.intro hu1 hu3); have HOW := Z_ HB.out.own; clear ho hu1 hu3; have n0 := HB.out.nd.cell; have nf := HB.out.nd.frozen; have nl := HB.out.lt; have kc := HK.out.nd.cell; simp only [Value.cells] at kc; obtain ⟨i0_, hi, hz0, hz1, hz2⟩ := info_split info_node; go_upto_region 34 with (at_builtin; refine wpList_append_lies _ rfl _ _ 35 rfl (N + 1) 66 i0_ (.agg #[.int .i64 0, .string ⟨#[]⟩, .int .i64 0, .slice none 0 0]) 4 56 Tryz.underlying35 hi hz0 hz1 hz2 rfl (by decide) (.slice none 0 0) 0 (us.flatMap fun u => u.cells.toList) rfl (HO.out.alloc _) ⟨u9.heap.size, 0, none⟩ 1 1 [.int .i64 ka38, .string ta38, .int .i64 ma38, .slice aa38 na38 ca38] rfl rfl (by intro j q hj; have e : (⟨u9.heap.size, 0, none⟩ : Addr).add j = ⟨u9.heap.size, j, none⟩ := (by unfold Addr.add; split <;> simp_all); rw [e, (Blk.made u9 _ _).cell]; simpa using hj) (by intro q hq; simp at hq; rcases hq with rfl | rfl | rfl | rfl <;> rfl) (by decide) (by unfold maxLen; omega) (by omega) (by simp; omega) (u9.heap.size + 1) (by simp) ?_; intro g c' w4 hown hgrow hat hlt1; have HPU := Z_ (pushed HU.out.1 HU.out.2 HK.out.dat hown hgrow hat); have HBN := Z_ (grown_blk hgrow (HB.out.nd.alloc _) (fun e => by have := (HOW.out N e).1; omega)); have q1 := HBN.out.cell; have q1f := HBN.out.frozen; have q1l := HBN.out.lt; clear hown hgrow hat n0 nf nl kc HBN)
     obtain ⟨hG, hC, -⟩ := HPU.out; replace HB := Z_ (HB.out.more hG hC).put3; clear hG hC HPU q1 q1f q1l; simp only [List.length_nil, Nat.zero_add] at HB; generalize w4.setCell ⟨N, 3, none⟩ (.slice (some ⟨g, 0, none⟩) 1 c') = w6 at *; have HAT := Z_ HB.out.at_; obtain ⟨ra, rc, hrow⟩ := HB.out.slice3
     first | subst hrow | clear hrow
     have n0 := HB.out.nd.cell; have r0 := HB.out.at_.res.cell; have rf := HB.out.at_.res.frozen; have rl := HB.out.at_.res.lt; unfold zeroNd at r0; go_wp2_with fail
     refine ends_at rfl rfl rfl ((((HB.out.at_.res.set 0 _).set 1 _).set 2 _).set 3 _) Tryz.underlying66 rfl (by kernel_rfl) ?_
     first | exact HB.out.ret (by omega) HT.out | (subst hA; exact HB.out.ret (by omega) HT.out)
 | true =>
  obtain ⟨hbf, HT0⟩ := HY.out (by trivial)
  first | subst hbf | clear hbf
  replace hP : RdrAt W u1 S l.tail false := by simpa using hP
  have HT := Z_ (HT0 l.tail); replace HB := Z_ (HB.out.call hC hP); replace HAT := Z_ HB.out.at_; clear hC hP HN HY HO HT0; have n0 := HB.out.nd.cell; have nf := HB.out.nd.frozen; have nl := HB.out.lt; go_upto_region 4 with (fail)
  replace HB := Z_ (HB.out.num 2); clear n0 nf nl; generalize u1.setCell ⟨N, 2, none⟩ (.int .i64 2) = f39 at *; replace HAT := Z_ HB.out.at_; obtain ⟨P, hP⟩ : ∃ P : Int, (2 : Int) = P := ⟨_, rfl⟩; have HB2 : Hid (RBld W w f39 S A N l.tail false 0 ⟨#[]⟩ P (.slice none 0 0) (.slice none 0 0) []) := Z_ (by rw [← hP]; exact HB.out); have HT2 : Hid (stO false l.tail (declQ n P l.tail) = T) := Z_ (by rw [← hP]; exact HT.out); have hP0 : 0 ≤ P := by omega
  have hP2 : P ≤ 2 := by omega
  clear HB HT hP HAT; have HB := HB2; have HT0 := HT2.out; have HAT := Z_ HB.out.at_; clear HB2 HT2; simp only [declQ] at HT0; have HT := Z_ HT0; clear HT0; have HN := Z_ (eat_any HAT.out.pr sProc (by decide)); have HY := Z_ (fun he => now_eat2 HT.out he); have HO := Z_ (fun he => now_not HT.out he); clear HT; generalize (!false && isB l.tail [sProc]) = R at *; go_wp2_with fail
  refine HN.out.mono ?_
  rintro e u40 ⟨rfl, hC, hP⟩; cases R with
  | false =>
   replace hP : RdrAt W u40 S l.tail false := by simpa using hP
   have HT := Z_ (HO.out (by trivial)); replace HB := Z_ (HB.out.call hC hP); replace HAT := Z_ HB.out.at_; clear hC hP HN HY HO; have n0 := HB.out.nd.cell; have nf := HB.out.nd.frozen; have nl := HB.out.lt; go_upto_region 6 with (fail)
   replace HB := Z_ (HB.out.kind 3); clear n0 nf nl; generalize u40.setCell ⟨N, 0, none⟩ (.int .i64 3) = f41 at *; replace HAT := Z_ HB.out.at_; have HN := Z_ (label_any HAT.out.pr); go_wp2_with fail
   refine HN.out.mono ?_
   rintro e u42 ⟨hC, s42, v, l42, b42, rfl, ⟨rfl, hb0s42, hb1s42⟩, hP, hrel⟩; replace HT := Z_ (now_bind HT.out HNE.out hrel); replace HBD := Z_ (rel_bad (b0 := b0) hrel (by first | exact HBD.out | exact fun _ => rfl | (intro e; have := HBD.out; simp_all))); replace HB := Z_ (HB.out.call hC hP); replace HAT := Z_ HB.out.at_; clear hC hP hrel HN; have hw : IntKind.i64.wrap (P + s42) = P + s42 := wrap_small _ (by omega) (by omega); have n0 := HB.out.nd.cell; have nf := HB.out.nd.frozen; have nl := HB.out.lt; go_upto_region 8 with (fail)
   replace HB := Z_ (HB.out.num (P + s42)); clear n0 nf nl; generalize u42.setCell ⟨N, 2, none⟩ (.int .i64 (P + s42)) = f43 at *; replace HAT := Z_ HB.out.at_; clear hw; have HN := Z_ (name_any3 HAT.out.pr); go_wp2_with fail
   refine HN.out.mono ?_
   rintro e u44 ⟨hC, s44, v, l44, b44, rfl, ⟨rfl, hss44⟩, hP, hrel⟩; replace HT := Z_ (now_bind HT.out HNE.out hrel); replace HBD := Z_ (rel_bad (b0 := b0) hrel (by first | exact HBD.out | exact fun _ => rfl | (intro e; have := HBD.out; simp_all))); replace HB := Z_ (HB.out.call hC hP); replace HAT := Z_ HB.out.at_; clear hC hP hrel HN; have n0 := HB.out.nd.cell; have nf := HB.out.nd.frozen; have nl := HB.out.lt; go_upto_region 9 with (fail)
   replace HB := Z_ (HB.out.text s44); clear n0 nf nl; generalize u44.setCell ⟨N, 1, none⟩ (.string s44) = f45 at *; replace HAT := Z_ HB.out.at_; have HN := Z_ (eat_any HAT.out.pr sBra (by decide)); have HY := Z_ (fun he => now_eat2 HT.out he); have HO := Z_ (fun he => now_not HT.out he); clear HT; generalize (!b44 && isB l44 [sBra]) = R at *; go_wp2_with fail
   refine HN.out.mono ?_
   rintro e u46 ⟨rfl, hC, hP⟩; cases R with
   | false =>
    replace hP : RdrAt W u46 S l44 b44 := by simpa using hP
    have HT := Z_ (HO.out (by trivial)); replace HB := Z_ (HB.out.call hC hP); replace HAT := Z_ HB.out.at_; clear hC hP HN HY HO; have HN := Z_ (must_any HAT.out.pr sSemi (by decide)); go_wp2_with fail
    refine HN.out.mono ?_
    rintro e u47 ⟨hC, _, _, l47, b47, rfl, rfl, hP, hrel⟩; replace HT := Z_ (now_bind HT.out HNE.out hrel); replace HBD := Z_ (rel_bad (b0 := b0) hrel (by first | exact HBD.out | exact fun _ => rfl | (intro e; have := HBD.out; simp_all))); replace HB := Z_ (HB.out.call hC hP); replace HAT := Z_ HB.out.at_; clear hC hP hrel HN; obtain ⟨ra, rc, hrow⟩ := HB.out.slice3
    first | subst hrow | clear hrow
    have n0 := HB.out.nd.cell; have r0 := HB.out.at_.res.cell; have rf := HB.out.at_.res.frozen; have rl := HB.out.at_.res.lt; unfold zeroNd at r0; go_wp2_with fail
    refine ends_at rfl rfl rfl ((((HB.out.at_.res.set 0 _).set 1 _).set 2 _).set 3 _) Tryz.underlying66 rfl (by kernel_rfl) ?_
    first | exact HB.out.ret (by omega) HT.out | (subst hA; exact HB.out.ret (by omega) HT.out)
   | true =>
    obtain ⟨hbf, HT0⟩ := HY.out (by trivial)
    first | subst hbf | clear hbf
    replace hP : RdrAt W u46 S l44.tail false := by simpa using hP
    have HT := Z_ (HT0 l44.tail); replace HB := Z_ (HB.out.call hC hP); replace HAT := Z_ HB.out.at_; clear hC hP HN HY HO HT0; obtain ⟨B, hB⟩ : ∃ B, u46.heap.size = B := ⟨_, rfl⟩; have hNB := HB.out.lt; have HOW := Z_ HB.out.own; rw [hB] at hNB HOW; have HN := Z_ (number_any HAT.out.pr); go_wp2_with fail
    refine HN.out.mono ?_
    rintro e u48 ⟨hC, x48, v48, l48, b48, rfl, hv, hP, hrel⟩; replace hrel : Rel (stO false l44.tail (pNumber l44.tail)) x48 l48 b48 := hrel; replace HT := Z_ (now_bind HT.out HNE.out hrel); replace HBD := Z_ (rel_bad (b0 := b0) hrel (by first | exact HBD.out | exact fun _ => rfl | (intro e; have := HBD.out; simp_all))); replace HB := Z_ (HB.out.call hC hP); replace HAT := Z_ HB.out.at_; obtain ⟨ka48, ta48, ma48, aa48, na48, ca48, rfl⟩ := nd_form hv; have HV48 := Z_ hv; have hsz48 : u46.heap.size ≤ u48.heap.size := hC.size; clear hC hP hrel hv HN; rw [hB] at HV48 hsz48; have HK := Z_ (Kid.start HV48.out hSN hNB (fun i e => (HOW.out i e).2) hsz48 (c := #[.int .i64 ka48, .string ta48, .int .i64 ma48, .slice aa48 na48 ca48]) rfl); have hEx := (Chg.refl (fun _ => False) u48).alloc (.cells #[.int .i64 ka48, .string ta48, .int .i64 ma48, .slice aa48 na48 ca48] 66)
    replace HB := Z_ (HB.out.extend hEx); replace HAT := Z_ HB.out.at_; clear hEx HOW; obtain ⟨XHK, hXHK⟩ : ∃ X, u48.heap.size = X := ⟨_, rfl⟩; rw [hXHK] at HK; go_upto_region 11 with (fail)
    generalize u48.alloc (.cells #[.int .i64 ka48, .string ta48, .int .i64 ma48, .slice aa48 na48 ca48] 66) = u9 at *; clear hB hNB hsz48 HV48; clear HAT; obtain ⟨us, hu1, ho, hu3⟩ := HB.out.grow.ex; have HO := Z_ ho; have HU := Z_ (And.intro hu1 hu3); have HOW := Z_ HB.out.own; clear ho hu1 hu3; have n0 := HB.out.nd.cell; have nf := HB.out.nd.frozen; have nl := HB.out.lt; have kc := HK.out.nd.cell; simp only [Value.cells] at kc; obtain ⟨i0_, hi, hz0, hz1, hz2⟩ := info_split info_node; go_upto_region 12 with (at_builtin; refine wpList_append_lies _ rfl _ _ 35 rfl (N + 1) 66 i0_ (.agg #[.int .i64 0, .string ⟨#[]⟩, .int .i64 0, .slice none 0 0]) 4 56 Tryz.underlying35 hi hz0 hz1 hz2 rfl (by decide) (.slice none 0 0) 0 (us.flatMap fun u => u.cells.toList) rfl (HO.out.alloc _) ⟨u9.heap.size, 0, none⟩ 1 1 [.int .i64 ka48, .string ta48, .int .i64 ma48, .slice aa48 na48 ca48] rfl rfl (by intro j q hj; have e : (⟨u9.heap.size, 0, none⟩ : Addr).add j = ⟨u9.heap.size, j, none⟩ := (by unfold Addr.add; split <;> simp_all); rw [e, (Blk.made u9 _ _).cell]; simpa using hj) (by intro q hq; simp at hq; rcases hq with rfl | rfl | rfl | rfl <;> rfl) (by decide) (by unfold maxLen; omega) (by omega) (by simp; omega) (u9.heap.size + 1) (by simp) ?_; intro g c' w4 hown hgrow hat hlt1; have HPU := Z_ (pushed HU.out.1 HU.out.2 HK.out.dat hown hgrow hat); have HBN := Z_ (grown_blk hgrow (HB.out.nd.alloc _) (fun e => by have := (HOW.out N e).1; omega)); have q1 := HBN.out.cell; have q1f := HBN.out.frozen; have q1l := HBN.out.lt; clear hown hgrow hat n0 nf nl kc HBN)
    obtain ⟨hG, hC, -⟩ := HPU.out; replace HB := Z_ (HB.out.more hG hC).put3; clear hG hC HPU q1 q1f q1l; simp only [List.length_nil, Nat.zero_add] at HB; generalize w4.setCell ⟨N, 3, none⟩ (.slice (some ⟨g, 0, none⟩) 1 c') = w6 at *; have HAT := Z_ HB.out.at_; have HN := Z_ (must_any HAT.out.pr sKet (by decide)); go_wp2_with fail
    refine HN.out.mono ?_
    rintro e u49 ⟨hC, _, _, l49, b49, rfl, rfl, hP, hrel⟩; replace HT := Z_ (now_bind HT.out HNE.out hrel); replace HBD := Z_ (rel_bad (b0 := b0) hrel (by first | exact HBD.out | exact fun _ => rfl | (intro e; have := HBD.out; simp_all))); replace HB := Z_ (HB.out.call hC hP); replace HAT := Z_ HB.out.at_; clear hC hP hrel HN; have HN := Z_ (must_any HAT.out.pr sSemi (by decide)); go_wp2_with fail
    refine HN.out.mono ?_
    rintro e u50 ⟨hC, _, _, l50, b50, rfl, rfl, hP, hrel⟩; replace HT := Z_ (now_bind HT.out HNE.out hrel); replace HBD := Z_ (rel_bad (b0 := b0) hrel (by first | exact HBD.out | exact fun _ => rfl | (intro e; have := HBD.out; simp_all))); replace HB := Z_ (HB.out.call hC hP); replace HAT := Z_ HB.out.at_; clear hC hP hrel HN; obtain ⟨ra, rc, hrow⟩ := HB.out.slice3
    first | subst hrow | clear hrow
    have n0 := HB.out.nd.cell; have r0 := HB.out.at_.res.cell; have rf := HB.out.at_.res.frozen; have rl := HB.out.at_.res.lt; unfold zeroNd at r0; go_wp2_with fail
    refine ends_at rfl rfl rfl ((((HB.out.at_.res.set 0 _).set 1 _).set 2 _).set 3 _) Tryz.underlying66 rfl (by kernel_rfl) ?_
    first | exact HB.out.ret (by omega) HT.out | (subst hA; exact HB.out.ret (by omega) HT.out)
  | true =>
   obtain ⟨hbf, HT0⟩ := HY.out (by trivial)
   first | subst hbf | clear hbf
   replace hP : RdrAt W u40 S l.tail.tail false := by simpa using hP
   have HT := Z_ (HT0 l.tail.tail); replace HB := Z_ (HB.out.call hC hP); replace HAT := Z_ HB.out.at_; clear hC hP HN HY HO HT0; obtain ⟨m, rfl⟩ : ∃ m, n = m + 1 := by cases n with | zero => exact absurd HT.out.symm HNE.out | succ m => exact ⟨m, rfl⟩
   have HT0 := HT.out; clear HT; simp only [prs] at HT0; have HT := Z_ HT0; clear HT0; have n0 := HB.out.nd.cell; have nf := HB.out.nd.frozen; have nl := HB.out.lt; go_upto_region 16 with (fail)
   replace HB := Z_ (HB.out.kind 4); clear n0 nf nl; generalize u40.setCell ⟨N, 0, none⟩ (.int .i64 4) = f51 at *; replace HAT := Z_ HB.out.at_; have HN := Z_ (name_any3 HAT.out.pr); go_wp2_with fail
   refine HN.out.mono ?_
   rintro e u52 ⟨hC, s52, v, l52, b52, rfl, ⟨rfl, hss52⟩, hP, hrel⟩; replace HT := Z_ (now_bind HT.out HNE.out hrel); replace HBD := Z_ (rel_bad (b0 := b0) hrel (by first | exact HBD.out | exact fun _ => rfl | (intro e; have := HBD.out; simp_all))); replace HB := Z_ (HB.out.call hC hP); replace HAT := Z_ HB.out.at_; clear hC hP hrel HN; have n0 := HB.out.nd.cell; have nf := HB.out.nd.frozen; have nl := HB.out.lt; go_upto_region 17 with (fail)
   replace HB := Z_ (HB.out.text s52); clear n0 nf nl; generalize u52.setCell ⟨N, 1, none⟩ (.string s52) = f53 at *; replace HAT := Z_ HB.out.at_; have HN := Z_ (must_any HAT.out.pr sOpen (by decide)); go_wp2_with fail
   refine HN.out.mono ?_
   rintro e u54 ⟨hC, _, _, l54, b54, rfl, rfl, hP, hrel⟩; replace HT := Z_ (now_bind HT.out HNE.out hrel); replace HBD := Z_ (rel_bad (b0 := b0) hrel (by first | exact HBD.out | exact fun _ => rfl | (intro e; have := HBD.out; simp_all))); replace HB := Z_ (HB.out.call hC hP); replace HAT := Z_ HB.out.at_; clear hC hP hrel HN; replace HT := Z_ (params_open HT.out HNE.out); have hL0 := HAT.out.pr.len; have HN := Z_ (text_is HAT.out.pr sClose (by decide) (q := [41]) rfl); have HY := Z_ (fun he => now_eat2 HT.out he); have HO := Z_ (fun he => now_not HT.out he); clear HT; generalize (!b54 && isB l54 [sClose]) = R at *; go_wp2_with fail
   refine HN.out.mono ?_
   rintro e u55 ⟨xt, rfl, hst, hE⟩; replace HB := Z_ (HB.out.extend hE); replace HAT := Z_ HB.out.at_; clear hE HN; cases R with
   | false =>
    have HT := Z_ (HO.out (by trivial)); clear HY HO; go_wp2_with fail
    go_loopg [6] (m + 1) (fun kk on wr => ∃ (o : Bool) (l2 : List Tk) (b2 : Bool) (acc : List Nd) (row : Value) (d : Nat), on = .bool o ∧ d ≤ m ∧ kk ≤ m + 1 ∧ Hid (b0 = true → b2 = true) ∧ Hid (stO b2 l2 (if o = true then parQ (kk - 1) s52 P acc l2 else doneQ d s52 P acc l2) = T) ∧ Hid (o = true → 1 ≤ kk) ∧ Hid (RBld W w wr S A N l2 b2 4 s52 P row row acc) ∧ Hid (b2 = false → acc.length + l2.length ≤ 10000) ∧ Hid (acc.length ≤ 10001 ∧ (o = true → acc.length ≤ 10000)))
    case atStart => exact ⟨true, l54, b54, [], .slice none 0 0, 0, rfl, Nat.zero_le _, Nat.le_refl _, HBD, HT, Z_ (fun _ => by omega), HB, Z_ (fun _ => by simpa using hL0), Z_ ⟨by simp, fun _ => by simp⟩⟩
    clear HT HB HAT HBD hL0
    case round =>
     obtain ⟨o, lr, br, acc, row, d, rfl, hdm, hkn, HBD, HT, HK1, HB, HLE, HLN⟩ := hrel; have HAT := Z_ HB.out.at_; cases o with
     | false =>
      replace HT := Z_ (show stO br lr (doneQ d s52 P acc lr) = T from HT.out); have hle := HLN.out.1; clear HLN HLE HK1; go_wp2_with fail
      have HT0 := HT.out; clear HT; simp only [doneQ] at HT0; have HT := Z_ HT0; clear HT0; have HN := Z_ (must_any HAT.out.pr sClose (by decide)); go_wp2_with fail
      refine HN.out.mono ?_
      rintro e u56 ⟨hC, _, _, l56, b56, rfl, rfl, hP, hrel⟩; replace HT := Z_ (now_bind HT.out HNE.out hrel); replace HBD := Z_ (rel_bad (b0 := b0) hrel (by first | exact HBD.out | exact fun _ => rfl | (intro e; have := HBD.out; simp_all))); replace HB := Z_ (HB.out.call hC hP); replace HAT := Z_ HB.out.at_; clear hC hP hrel HN; have HN := Z_ (label_any HAT.out.pr); go_wp2_with fail
      refine HN.out.mono ?_
      rintro e u57 ⟨hC, s57, v, l57, b57, rfl, ⟨rfl, hb0s57, hb1s57⟩, hP, hrel⟩; replace HT := Z_ (now_bind HT.out HNE.out hrel); replace HBD := Z_ (rel_bad (b0 := b0) hrel (by first | exact HBD.out | exact fun _ => rfl | (intro e; have := HBD.out; simp_all))); replace HB := Z_ (HB.out.call hC hP); replace HAT := Z_ HB.out.at_; clear hC hP hrel HN; have hw : IntKind.i64.wrap (P + s57) = P + s57 := wrap_small _ (by omega) (by omega); have n0 := HB.out.nd.cell; have nf := HB.out.nd.frozen; have nl := HB.out.lt; go_upto_region 29 with (fail)
      replace HB := Z_ (HB.out.num (P + s57)); clear n0 nf nl; generalize u57.setCell ⟨N, 2, none⟩ (.int .i64 (P + s57)) = f58 at *; replace HAT := Z_ HB.out.at_; clear hw; have HN := Z_ (eat_any HAT.out.pr sGives (by decide)); have HY := Z_ (fun he => now_eat2 HT.out he); have HO := Z_ (fun he => now_not HT.out he); clear HT; generalize (!b57 && isB l57 [sGives]) = R at *; go_wp2_with fail
      refine HN.out.mono ?_
      rintro e u59 ⟨rfl, hC, hP⟩; cases R with
      | false =>
       replace hP : RdrAt W u59 S l57 b57 := by simpa using hP
       have HT := Z_ (HO.out (by trivial)); replace HB := Z_ (HB.out.call hC hP); replace HAT := Z_ HB.out.at_; clear hC hP HN HY HO; obtain ⟨B, hB⟩ : ∃ B, u59.heap.size = B := ⟨_, rfl⟩; have hNB := HB.out.lt; have HOW := Z_ HB.out.own; rw [hB] at hNB HOW; have HN := Z_ ((dK (d - 1) (by omega)) _ _ HAT.out.pr (by first | exact HBD.out | exact fun _ => rfl | (intro e; have := HBD.out; simp_all)) (fun e => by cases e) rfl trivial (now_ne HT.out HNE.out)); go_wp2_with fail
       refine HN.out.mono ?_
       rintro e u60 ⟨hC, x60, v60, l60, b60, rfl, hv, hP, hrel⟩; replace HT := Z_ (now_bind HT.out HNE.out hrel); replace HBD := Z_ (rel_bad (b0 := b0) hrel (by first | exact HBD.out | exact fun _ => rfl | (intro e; have := HBD.out; simp_all))); replace HB := Z_ (HB.out.call hC hP); replace HAT := Z_ HB.out.at_; obtain ⟨ka60, ta60, ma60, aa60, na60, ca60, rfl⟩ := nd_form hv; have HV60 := Z_ hv; have hsz60 : u59.heap.size ≤ u60.heap.size := hC.size; clear hC hP hrel hv HN; rw [hB] at HV60 hsz60; have HK := Z_ (Kid.start HV60.out hSN hNB (fun i e => (HOW.out i e).2) hsz60 (c := #[.int .i64 ka60, .string ta60, .int .i64 ma60, .slice aa60 na60 ca60]) rfl); have hEx := (Chg.refl (fun _ => False) u60).alloc (.cells #[.int .i64 ka60, .string ta60, .int .i64 ma60, .slice aa60 na60 ca60] 66); replace HB := Z_ (HB.out.extend hEx); replace HAT := Z_ HB.out.at_
       clear hEx HOW; obtain ⟨XHK, hXHK⟩ : ∃ X, u60.heap.size = X := ⟨_, rfl⟩; rw [hXHK] at HK; go_upto_region 33 with (fail)
       generalize u60.alloc (.cells #[.int .i64 ka60, .string ta60, .int .i64 ma60, .slice aa60 na60 ca60] 66) = u9 at *; clear hB hNB hsz60 HV60; clear HAT; obtain ⟨ra, rc, hrow⟩ := HB.out.slice3
       first | subst hrow | (have e1 := (Value.slice.inj hrow).1; have e3 := (Value.slice.inj hrow).2.2; subst e1; subst e3)
       obtain ⟨us, hu1, ho, hu3⟩ := HB.out.grow.ex; have HO := Z_ ho; have HU := Z_ (And.intro hu1 hu3); have HOW := Z_ HB.out.own; clear ho hu1 hu3; have n0 := HB.out.nd.cell; have nf := HB.out.nd.frozen; have nl := HB.out.lt; have kc := HK.out.nd.cell; simp only [Value.cells] at kc; obtain ⟨i0_, hi, hz0, hz1, hz2⟩ := info_split info_node; go_upto_region 34 with (at_builtin; refine wpList_append_lies _ rfl _ _ 35 rfl (N + 1) 66 i0_ (.agg #[.int .i64 0, .string ⟨#[]⟩, .int .i64 0, .slice none 0 0]) 4 56 Tryz.underlying35 hi hz0 hz1 hz2 rfl (by decide) (.slice ra acc.length rc) acc.length (us.flatMap fun u => u.cells.toList) rfl (HO.out.alloc _) ⟨u9.heap.size, 0, none⟩ 1 1 [.int .i64 ka60, .string ta60, .int .i64 ma60, .slice aa60 na60 ca60] rfl rfl (by intro j q hj; have e : (⟨u9.heap.size, 0, none⟩ : Addr).add j = ⟨u9.heap.size, j, none⟩ := (by unfold Addr.add; split <;> simp_all); rw [e, (Blk.made u9 _ _).cell]; simpa using hj) (by intro q hq; simp at hq; rcases hq with rfl | rfl | rfl | rfl <;> rfl) (by decide) (by unfold maxLen; omega) (by omega) (by simp; omega) (u9.heap.size + 1) (by simp) ?_; intro g c' w4 hown hgrow hat hlt1; have HPU := Z_ (pushed HU.out.1 HU.out.2 HK.out.dat hown hgrow hat); have HBN := Z_ (grown_blk hgrow (HB.out.nd.alloc _) (fun e => by have := (HOW.out N e).1; omega)); have q1 := HBN.out.cell; have q1f := HBN.out.frozen; have q1l := HBN.out.lt; clear hown hgrow hat n0 nf nl kc HBN)
       obtain ⟨hG, hC, -⟩ := HPU.out; replace HB := Z_ (HB.out.more hG hC).put3; clear hG hC HPU q1 q1f q1l; generalize w4.setCell ⟨N, 3, none⟩ (.slice (some ⟨g, 0, none⟩) (acc.length + 1) c') = w6 at *; have HAT := Z_ HB.out.at_; obtain ⟨ra, rc, hrow⟩ := HB.out.slice3
       first | subst hrow | clear hrow
       have n0 := HB.out.nd.cell; have r0 := HB.out.at_.res.cell; have rf := HB.out.at_.res.frozen; have rl := HB.out.at_.res.lt; unfold zeroNd at r0; go_wp2_with fail
       refine ends_at rfl rfl rfl ((((HB.out.at_.res.set 0 _).set 1 _).set 2 _).set 3 _) Tryz.underlying66 rfl (by kernel_rfl) ?_
       first | exact HB.out.ret (by omega) HT.out | (subst hA; exact HB.out.ret (by omega) HT.out)
      | true =>
       obtain ⟨hbf, HT0⟩ := HY.out (by trivial)
       first | subst hbf | clear hbf
       replace hP : RdrAt W u59 S l57.tail false := by simpa using hP
       have HT := Z_ (HT0 l57.tail); replace HB := Z_ (HB.out.call hC hP); replace HAT := Z_ HB.out.at_; clear hC hP HN HY HO HT0; have HN := Z_ (label_any HAT.out.pr); go_wp2_with fail
       refine HN.out.mono ?_
       rintro e u61 ⟨hC, s61, v, l61, b61, rfl, ⟨rfl, hb0s61, hb1s61⟩, hP, hrel⟩; replace HT := Z_ (now_bind HT.out HNE.out hrel); replace HBD := Z_ (rel_bad (b0 := b0) hrel (by first | exact HBD.out | exact fun _ => rfl | (intro e; have := HBD.out; simp_all))); replace HB := Z_ (HB.out.call hC hP); replace HAT := Z_ HB.out.at_; clear hC hP hrel HN; have hw1 : IntKind.i64.wrap (P + s57 + 4) = P + s57 + 4 := wrap_small _ (by omega) (by omega); have hw2 : IntKind.i64.wrap (4 * s61) = 4 * s61 := wrap_small _ (by omega) (by omega); have hw3 : IntKind.i64.wrap (P + s57 + 4 + 4 * s61) = P + s57 + (4 + 4 * s61) := by rw [wrap_small _ (by omega) (by omega)]; omega
       have n0 := HB.out.nd.cell; have nf := HB.out.nd.frozen; have nl := HB.out.lt; go_upto_region 32 with (fail)
       replace HB := Z_ (HB.out.num (P + s57 + (4 + 4 * s61))); clear n0 nf nl; generalize u61.setCell ⟨N, 2, none⟩ (.int .i64 (P + s57 + (4 + 4 * s61))) = f62 at *; replace HAT := Z_ HB.out.at_; clear hw1 hw2 hw3; obtain ⟨B, hB⟩ : ∃ B, f62.heap.size = B := ⟨_, rfl⟩; have hNB := HB.out.lt; have HOW := Z_ HB.out.own; rw [hB] at hNB HOW; have HN := Z_ ((dK (d - 1) (by omega)) _ _ HAT.out.pr (by first | exact HBD.out | exact fun _ => rfl | (intro e; have := HBD.out; simp_all)) (fun e => by cases e) rfl trivial (now_ne HT.out HNE.out)); go_wp2_with fail
       refine HN.out.mono ?_
       rintro e u63 ⟨hC, x63, v63, l63, b63, rfl, hv, hP, hrel⟩; replace HT := Z_ (now_bind HT.out HNE.out hrel); replace HBD := Z_ (rel_bad (b0 := b0) hrel (by first | exact HBD.out | exact fun _ => rfl | (intro e; have := HBD.out; simp_all))); replace HB := Z_ (HB.out.call hC hP); replace HAT := Z_ HB.out.at_; obtain ⟨ka63, ta63, ma63, aa63, na63, ca63, rfl⟩ := nd_form hv; have HV63 := Z_ hv; have hsz63 : f62.heap.size ≤ u63.heap.size := hC.size; clear hC hP hrel hv HN; rw [hB] at HV63 hsz63; have HK := Z_ (Kid.start HV63.out hSN hNB (fun i e => (HOW.out i e).2) hsz63 (c := #[.int .i64 ka63, .string ta63, .int .i64 ma63, .slice aa63 na63 ca63]) rfl); have hEx := (Chg.refl (fun _ => False) u63).alloc (.cells #[.int .i64 ka63, .string ta63, .int .i64 ma63, .slice aa63 na63 ca63] 66); replace HB := Z_ (HB.out.extend hEx); replace HAT := Z_ HB.out.at_
       clear hEx HOW; obtain ⟨XHK, hXHK⟩ : ∃ X, u63.heap.size = X := ⟨_, rfl⟩; rw [hXHK] at HK; go_upto_region 33 with (fail)
       generalize u63.alloc (.cells #[.int .i64 ka63, .string ta63, .int .i64 ma63, .slice aa63 na63 ca63] 66) = u9 at *; clear hB hNB hsz63 HV63; clear HAT; obtain ⟨ra, rc, hrow⟩ := HB.out.slice3
       first | subst hrow | (have e1 := (Value.slice.inj hrow).1; have e3 := (Value.slice.inj hrow).2.2; subst e1; subst e3)
       obtain ⟨us, hu1, ho, hu3⟩ := HB.out.grow.ex; have HO := Z_ ho; have HU := Z_ (And.intro hu1 hu3); have HOW := Z_ HB.out.own; clear ho hu1 hu3; have n0 := HB.out.nd.cell; have nf := HB.out.nd.frozen; have nl := HB.out.lt; have kc := HK.out.nd.cell; simp only [Value.cells] at kc; obtain ⟨i0_, hi, hz0, hz1, hz2⟩ := info_split info_node; go_upto_region 34 with (at_builtin; refine wpList_append_lies _ rfl _ _ 35 rfl (N + 1) 66 i0_ (.agg #[.int .i64 0, .string ⟨#[]⟩, .int .i64 0, .slice none 0 0]) 4 56 Tryz.underlying35 hi hz0 hz1 hz2 rfl (by decide) (.slice ra acc.length rc) acc.length (us.flatMap fun u => u.cells.toList) rfl (HO.out.alloc _) ⟨u9.heap.size, 0, none⟩ 1 1 [.int .i64 ka63, .string ta63, .int .i64 ma63, .slice aa63 na63 ca63] rfl rfl (by intro j q hj; have e : (⟨u9.heap.size, 0, none⟩ : Addr).add j = ⟨u9.heap.size, j, none⟩ := (by unfold Addr.add; split <;> simp_all); rw [e, (Blk.made u9 _ _).cell]; simpa using hj) (by intro q hq; simp at hq; rcases hq with rfl | rfl | rfl | rfl <;> rfl) (by decide) (by unfold maxLen; omega) (by omega) (by simp; omega) (u9.heap.size + 1) (by simp) ?_; intro g c' w4 hown hgrow hat hlt1; have HPU := Z_ (pushed HU.out.1 HU.out.2 HK.out.dat hown hgrow hat); have HBN := Z_ (grown_blk hgrow (HB.out.nd.alloc _) (fun e => by have := (HOW.out N e).1; omega)); have q1 := HBN.out.cell; have q1f := HBN.out.frozen; have q1l := HBN.out.lt; clear hown hgrow hat n0 nf nl kc HBN)
       obtain ⟨hG, hC, -⟩ := HPU.out; replace HB := Z_ (HB.out.more hG hC).put3; clear hG hC HPU q1 q1f q1l; generalize w4.setCell ⟨N, 3, none⟩ (.slice (some ⟨g, 0, none⟩) (acc.length + 1) c') = w6 at *; have HAT := Z_ HB.out.at_; obtain ⟨ra, rc, hrow⟩ := HB.out.slice3
       first | subst hrow | clear hrow
       have n0 := HB.out.nd.cell; have r0 := HB.out.at_.res.cell; have rf := HB.out.at_.res.frozen; have rl := HB.out.at_.res.lt; unfold zeroNd at r0; go_wp2_with fail
       refine ends_at rfl rfl rfl ((((HB.out.at_.res.set 0 _).set 1 _).set 2 _).set 3 _) Tryz.underlying66 rfl (by kernel_rfl) ?_
       first | exact HB.out.ret (by omega) HT.out | (subst hA; exact HB.out.ret (by omega) HT.out)
     | true =>
      replace HT := Z_ (show stO br lr (parQ (gk - 1) s52 P acc lr) = T from HT.out); have hle := HLN.out.2 rfl; have hgk := HK1.out rfl; clear HLN HK1; have HT0 := HT.out; clear HT; simp only [parQ] at HT0; have HT := Z_ HT0; clear HT0; have HB0 := HB; have HX := Z_ (Blk.made wr #[.int .i64 5, .string ⟨#[]⟩, .int .i64 0, .slice none 0 0] 66); have HC0 : Hid (Chg (fun i => i = S) wr (wr.alloc (.cells #[.int .i64 5, .string ⟨#[]⟩, .int .i64 0, .slice none 0 0] 66))) := Z_ ((Chg.refl _ wr).alloc _); replace HB := Z_ (HB.out.extend ((Chg.refl _ _).alloc (.cells #[.int .i64 5, .string ⟨#[]⟩, .int .i64 0, .slice none 0 0] 66))); replace HAT := Z_ HB.out.at_; obtain ⟨X, hX⟩ : ∃ X, wr.heap.size = X := ⟨_, rfl⟩; rw [hX] at HX; have hNX : N < X := by have := HB0.out.lt; omega
      have hXs : wr.heap.size ≤ X := by omega
      go_upto_region 23 with (fail)
      generalize wr.alloc (.cells #[.int .i64 5, .string ⟨#[]⟩, .int .i64 0, .slice none 0 0] 66) = x0 at *; have HN := Z_ (label_any HAT.out.pr); go_wp2_with fail
      refine HN.out.mono ?_
      rintro e u64 ⟨hC, s64, v, l64, b64, rfl, ⟨rfl, hb0s64, hb1s64⟩, hP, hrel⟩; replace HT := Z_ (now_bind HT.out HNE.out hrel); replace HBD := Z_ (rel_bad (b0 := b0) hrel (by first | exact HBD.out | exact fun _ => rfl | (intro e; have := HBD.out; simp_all))); replace HB := Z_ (HB.out.call hC hP); replace HAT := Z_ HB.out.at_; replace HC0 := Z_ (HC0.out.then hC); replace HX := Z_ (HX.out.chg hC (by omega)); replace HLE := Z_ (rel_len (q := 1) hrel (fun _ _ hp => by have := synm.label_lt hp; omega) (pLabel_ne _) HLE.out); clear hC hP hrel HN; have x0_ := HX.out.cell; have xf := HX.out.frozen; have xl := HX.out.lt; go_upto_region 24 with (fail)
      replace HX := Z_ (HX.out.set 2 (.int .i64 s64)); replace HC0 := Z_ (HC0.out.setNew (p := ⟨X, 2, none⟩) hXs (.int .i64 s64)); have HPX := Z_ (HB.out.at_.pr.chg (chg_set (S := X) (Chg.refl _ _) 2 (.int .i64 s64)) (by omega) (fun i e => by have := HB.out.at_.pr.hS; omega)); clear x0_ xf xl HB HAT; generalize u64.setCell ⟨X, 2, none⟩ (.int .i64 s64) = f65 at *; have HB := Z_ (HB0.out.call HC0.out HPX.out); have HAT := Z_ HB.out.at_; clear HPX; have HN := Z_ (name_any3 HAT.out.pr); go_wp2_with fail
      refine HN.out.mono ?_
      rintro e u66 ⟨hC, s66, v, l66, b66, rfl, ⟨rfl, hss66⟩, hP, hrel⟩; replace HT := Z_ (now_bind HT.out HNE.out hrel); replace HBD := Z_ (rel_bad (b0 := b0) hrel (by first | exact HBD.out | exact fun _ => rfl | (intro e; have := HBD.out; simp_all))); replace HB := Z_ (HB.out.call hC hP); replace HAT := Z_ HB.out.at_; replace HC0 := Z_ (HC0.out.then hC); replace HX := Z_ (HX.out.chg hC (by omega)); replace HLE := Z_ (rel_len (q := 0) hrel (fun _ _ hp => by have := synm.name_lt hp; omega) (pName_ne _) HLE.out); clear hC hP hrel HN; have x0_ := HX.out.cell; have xf := HX.out.frozen; have xl := HX.out.lt; go_upto_region 25 with (fail)
      replace HX := Z_ (HX.out.set 1 (.string s66)); replace HC0 := Z_ (HC0.out.setNew (p := ⟨X, 1, none⟩) hXs (.string s66)); have HPX := Z_ (HB.out.at_.pr.chg (chg_set (S := X) (Chg.refl _ _) 1 (.string s66)) (by omega) (fun i e => by have := HB.out.at_.pr.hS; omega)); clear x0_ xf xl HB HAT; generalize u66.setCell ⟨X, 1, none⟩ (.string s66) = f67 at *; have HB := Z_ (HB0.out.call HC0.out HPX.out); have HAT := Z_ HB.out.at_; clear HPX; have HK := Z_ (Kid.leaf HB0.out hXs HX.out (by omega) hSN); clear HB0 HC0 HX HAT hXs; obtain ⟨ra, rc, hrow⟩ := HB.out.slice3
      first | subst hrow | (have e1 := (Value.slice.inj hrow).1; have e3 := (Value.slice.inj hrow).2.2; subst e1; subst e3)
      obtain ⟨us, hu1, ho, hu3⟩ := HB.out.grow.ex; have HO := Z_ ho; have HU := Z_ (And.intro hu1 hu3); have HOW := Z_ HB.out.own; clear ho hu1 hu3; have n0 := HB.out.nd.cell; have nf := HB.out.nd.frozen; have nl := HB.out.lt; have kc := HK.out.nd.cell; simp only [Value.cells] at kc; obtain ⟨i0_, hi, hz0, hz1, hz2⟩ := info_split info_node; go_upto_region 21 with (at_builtin; refine wpList_append_lies _ rfl _ _ 35 rfl (N + 1) 66 i0_ (.agg #[.int .i64 0, .string ⟨#[]⟩, .int .i64 0, .slice none 0 0]) 4 56 Tryz.underlying35 hi hz0 hz1 hz2 rfl (by decide) (.slice ra acc.length rc) acc.length (us.flatMap fun u => u.cells.toList) rfl (HO.out.alloc _) ⟨f67.heap.size, 0, none⟩ 1 1 [.int .i64 5, .string s66, .int .i64 s64, .slice none 0 0] rfl rfl (by intro j q hj; have e : (⟨f67.heap.size, 0, none⟩ : Addr).add j = ⟨f67.heap.size, j, none⟩ := (by unfold Addr.add; split <;> simp_all); rw [e, (Blk.made f67 _ _).cell]; simpa using hj) (by intro q hq; simp at hq; rcases hq with rfl | rfl | rfl | rfl <;> rfl) (by decide) (by unfold maxLen; omega) (by omega) (by simp; omega) (f67.heap.size + 1) (by simp) ?_; intro g c' w4 hown hgrow hat hlt1; have HPU := Z_ (pushed HU.out.1 HU.out.2 HK.out.dat hown hgrow hat); have HBN := Z_ (grown_blk hgrow (HB.out.nd.alloc _) (fun e => by have := (HOW.out N e).1; omega)); have q1 := HBN.out.cell; have q1f := HBN.out.frozen; have q1l := HBN.out.lt; clear hown hgrow hat n0 nf nl kc HBN)
      obtain ⟨hG, hC, -⟩ := HPU.out; replace HB := Z_ (HB.out.more hG hC).put3; clear hG hC HPU q1 q1f q1l; generalize w4.setCell ⟨N, 3, none⟩ (.slice (some ⟨g, 0, none⟩) (acc.length + 1) c') = w6 at *; have HAT := Z_ HB.out.at_; have HN := Z_ (eat_any HAT.out.pr sComma (by decide)); have HY := Z_ (fun he => now_eat2 HT.out he); have HO := Z_ (fun he => now_not HT.out he); clear HT; generalize (!b66 && isB l66 [sComma]) = R at *; go_wp2_with fail
      refine HN.out.mono ?_
      rintro e u68 ⟨rfl, hC, hP⟩; cases R with
      | false =>
       replace hP : RdrAt W u68 S l66 b66 := by simpa using hP
       have HT := Z_ (HO.out (by trivial)); replace HB := Z_ (HB.out.call hC hP); replace HAT := Z_ HB.out.at_; clear hC hP HN HY HO; go_wp2_with fail
       go_roundg 0
       case rel => exact ⟨false, l66, b66, acc ++ [Nd.mk 5 s66 s64 []], _, gk - 1, rfl, by omega, by omega, HBD, HT, Z_ (fun e => by cases e), HB, Z_ (fun e => by have := HLE.out e; simp only [List.length_append, List.length_singleton] at this ⊢; omega), Z_ ⟨by simp only [List.length_append, List.length_singleton]; omega, fun e => by cases e⟩⟩
       case measure => omega
      | true =>
       obtain ⟨hbf, HT0⟩ := HY.out (by trivial)
       first | subst hbf | clear hbf
       replace hP : RdrAt W u68 S l66.tail false := by simpa using hP
       have HT := Z_ (HT0 l66.tail); replace HB := Z_ (HB.out.call hC hP); replace HAT := Z_ HB.out.at_; clear hC hP HN HY HO HT0
       obtain ⟨j, rfl⟩ : ∃ j, gk = j + 2 := by
        rcases gk with _ | _ | j
        ·omega
        ·exact absurd HT.out.symm HNE.out
        ·exact ⟨j, rfl⟩
       go_wp2_with fail
       go_roundg (j + 1)
       case rel => exact ⟨true, l66.tail, false, acc ++ [Nd.mk 5 s66 s64 []], _, 0, rfl, Nat.zero_le _, by omega, HBD, Z_ (params_next (n := j) HT.out HNE.out), Z_ (fun _ => by omega), HB, Z_ (fun e => by have := HLE.out (by trivial); simp only [List.length_append, List.length_singleton, List.length_tail] at this ⊢; omega), Z_ ⟨by simp only [List.length_append, List.length_singleton]; omega, fun e => by have := HLE.out (by trivial); simp only [List.length_append, List.length_singleton] at this ⊢; omega⟩⟩
       case measure => omega
   | true =>
    obtain ⟨hbf, HT0⟩ := HY.out (by trivial)
    first | subst hbf | clear hbf
    have HT := Z_ (HT0 l54); clear HY HO HT0; clear hL0; have HT0 := HT.out; clear HT; simp only [doneQ] at HT0; have HT := Z_ HT0; clear HT0; have HN := Z_ (must_any HAT.out.pr sClose (by decide)); go_wp2_with fail
    refine HN.out.mono ?_
    rintro e u69 ⟨hC, _, _, l69, b69, rfl, rfl, hP, hrel⟩; replace HT := Z_ (now_bind HT.out HNE.out hrel); replace HBD := Z_ (rel_bad (b0 := b0) hrel (by first | exact HBD.out | exact fun _ => rfl | (intro e; have := HBD.out; simp_all))); replace HB := Z_ (HB.out.call hC hP); replace HAT := Z_ HB.out.at_; clear hC hP hrel HN; have HN := Z_ (label_any HAT.out.pr); go_wp2_with fail
    refine HN.out.mono ?_
    rintro e u70 ⟨hC, s70, v, l70, b70, rfl, ⟨rfl, hb0s70, hb1s70⟩, hP, hrel⟩; replace HT := Z_ (now_bind HT.out HNE.out hrel); replace HBD := Z_ (rel_bad (b0 := b0) hrel (by first | exact HBD.out | exact fun _ => rfl | (intro e; have := HBD.out; simp_all))); replace HB := Z_ (HB.out.call hC hP); replace HAT := Z_ HB.out.at_; clear hC hP hrel HN; have hw : IntKind.i64.wrap (P + s70) = P + s70 := wrap_small _ (by omega) (by omega); have n0 := HB.out.nd.cell; have nf := HB.out.nd.frozen; have nl := HB.out.lt; go_upto_region 29 with (fail)
    replace HB := Z_ (HB.out.num (P + s70)); clear n0 nf nl; generalize u70.setCell ⟨N, 2, none⟩ (.int .i64 (P + s70)) = f71 at *; replace HAT := Z_ HB.out.at_; clear hw; have HN := Z_ (eat_any HAT.out.pr sGives (by decide)); have HY := Z_ (fun he => now_eat2 HT.out he); have HO := Z_ (fun he => now_not HT.out he); clear HT; generalize (!b70 && isB l70 [sGives]) = R at *; go_wp2_with fail
    refine HN.out.mono ?_
    rintro e u72 ⟨rfl, hC, hP⟩; cases R with
    | false =>
     replace hP : RdrAt W u72 S l70 b70 := by simpa using hP
     have HT := Z_ (HO.out (by trivial)); replace HB := Z_ (HB.out.call hC hP); replace HAT := Z_ HB.out.at_; clear hC hP HN HY HO; obtain ⟨B, hB⟩ : ∃ B, u72.heap.size = B := ⟨_, rfl⟩; have hNB := HB.out.lt; have HOW := Z_ HB.out.own; rw [hB] at hNB HOW; have HN := Z_ ((dK (m - 1) (by omega)) _ _ HAT.out.pr (by first | exact HBD.out | exact fun _ => rfl | (intro e; have := HBD.out; simp_all)) (fun e => by cases e) rfl trivial (now_ne HT.out HNE.out)); go_wp2_with fail
     refine HN.out.mono ?_
     rintro e u73 ⟨hC, x73, v73, l73, b73, rfl, hv, hP, hrel⟩; replace HT := Z_ (now_bind HT.out HNE.out hrel); replace HBD := Z_ (rel_bad (b0 := b0) hrel (by first | exact HBD.out | exact fun _ => rfl | (intro e; have := HBD.out; simp_all))); replace HB := Z_ (HB.out.call hC hP); replace HAT := Z_ HB.out.at_; obtain ⟨ka73, ta73, ma73, aa73, na73, ca73, rfl⟩ := nd_form hv; have HV73 := Z_ hv; have hsz73 : u72.heap.size ≤ u73.heap.size := hC.size; clear hC hP hrel hv HN; rw [hB] at HV73 hsz73; have HK := Z_ (Kid.start HV73.out hSN hNB (fun i e => (HOW.out i e).2) hsz73 (c := #[.int .i64 ka73, .string ta73, .int .i64 ma73, .slice aa73 na73 ca73]) rfl); have hEx := (Chg.refl (fun _ => False) u73).alloc (.cells #[.int .i64 ka73, .string ta73, .int .i64 ma73, .slice aa73 na73 ca73] 66); replace HB := Z_ (HB.out.extend hEx); replace HAT := Z_ HB.out.at_
     clear hEx HOW; obtain ⟨XHK, hXHK⟩ : ∃ X, u73.heap.size = X := ⟨_, rfl⟩; rw [hXHK] at HK; go_upto_region 33 with (fail)
     generalize u73.alloc (.cells #[.int .i64 ka73, .string ta73, .int .i64 ma73, .slice aa73 na73 ca73] 66) = u9 at *; clear hB hNB hsz73 HV73; clear HAT; obtain ⟨us, hu1, ho, hu3⟩ := HB.out.grow.ex; have HO := Z_ ho; have HU := Z_ (And.intro hu1 hu3); have HOW := Z_ HB.out.own; clear ho hu1 hu3; have n0 := HB.out.nd.cell; have nf := HB.out.nd.frozen; have nl := HB.out.lt; have kc := HK.out.nd.cell; simp only [Value.cells] at kc; obtain ⟨i0_, hi, hz0, hz1, hz2⟩ := info_split info_node; go_upto_region 34 with (at_builtin; refine wpList_append_lies _ rfl _ _ 35 rfl (N + 1) 66 i0_ (.agg #[.int .i64 0, .string ⟨#[]⟩, .int .i64 0, .slice none 0 0]) 4 56 Tryz.underlying35 hi hz0 hz1 hz2 rfl (by decide) (.slice none 0 0) 0 (us.flatMap fun u => u.cells.toList) rfl (HO.out.alloc _) ⟨u9.heap.size, 0, none⟩ 1 1 [.int .i64 ka73, .string ta73, .int .i64 ma73, .slice aa73 na73 ca73] rfl rfl (by intro j q hj; have e : (⟨u9.heap.size, 0, none⟩ : Addr).add j = ⟨u9.heap.size, j, none⟩ := (by unfold Addr.add; split <;> simp_all); rw [e, (Blk.made u9 _ _).cell]; simpa using hj) (by intro q hq; simp at hq; rcases hq with rfl | rfl | rfl | rfl <;> rfl) (by decide) (by unfold maxLen; omega) (by omega) (by simp; omega) (u9.heap.size + 1) (by simp) ?_; intro g c' w4 hown hgrow hat hlt1; have HPU := Z_ (pushed HU.out.1 HU.out.2 HK.out.dat hown hgrow hat); have HBN := Z_ (grown_blk hgrow (HB.out.nd.alloc _) (fun e => by have := (HOW.out N e).1; omega)); have q1 := HBN.out.cell; have q1f := HBN.out.frozen; have q1l := HBN.out.lt; clear hown hgrow hat n0 nf nl kc HBN)
     obtain ⟨hG, hC, -⟩ := HPU.out; replace HB := Z_ (HB.out.more hG hC).put3; clear hG hC HPU q1 q1f q1l; simp only [List.length_nil, Nat.zero_add] at HB; generalize w4.setCell ⟨N, 3, none⟩ (.slice (some ⟨g, 0, none⟩) 1 c') = w6 at *; have HAT := Z_ HB.out.at_; obtain ⟨ra, rc, hrow⟩ := HB.out.slice3
     first | subst hrow | clear hrow
     have n0 := HB.out.nd.cell; have r0 := HB.out.at_.res.cell; have rf := HB.out.at_.res.frozen; have rl := HB.out.at_.res.lt; unfold zeroNd at r0; go_wp2_with fail
     refine ends_at rfl rfl rfl ((((HB.out.at_.res.set 0 _).set 1 _).set 2 _).set 3 _) Tryz.underlying66 rfl (by kernel_rfl) ?_
     first | exact HB.out.ret (by omega) HT.out | (subst hA; exact HB.out.ret (by omega) HT.out)
    | true =>
     obtain ⟨hbf, HT0⟩ := HY.out (by trivial)
     first | subst hbf | clear hbf
     replace hP : RdrAt W u72 S l70.tail false := by simpa using hP
     have HT := Z_ (HT0 l70.tail); replace HB := Z_ (HB.out.call hC hP); replace HAT := Z_ HB.out.at_; clear hC hP HN HY HO HT0; have HN := Z_ (label_any HAT.out.pr); go_wp2_with fail
     refine HN.out.mono ?_
     rintro e u74 ⟨hC, s74, v, l74, b74, rfl, ⟨rfl, hb0s74, hb1s74⟩, hP, hrel⟩; replace HT := Z_ (now_bind HT.out HNE.out hrel); replace HBD := Z_ (rel_bad (b0 := b0) hrel (by first | exact HBD.out | exact fun _ => rfl | (intro e; have := HBD.out; simp_all))); replace HB := Z_ (HB.out.call hC hP); replace HAT := Z_ HB.out.at_; clear hC hP hrel HN; have hw1 : IntKind.i64.wrap (P + s70 + 4) = P + s70 + 4 := wrap_small _ (by omega) (by omega); have hw2 : IntKind.i64.wrap (4 * s74) = 4 * s74 := wrap_small _ (by omega) (by omega); have hw3 : IntKind.i64.wrap (P + s70 + 4 + 4 * s74) = P + s70 + (4 + 4 * s74) := by rw [wrap_small _ (by omega) (by omega)]; omega
     have n0 := HB.out.nd.cell; have nf := HB.out.nd.frozen; have nl := HB.out.lt; go_upto_region 32 with (fail)
     replace HB := Z_ (HB.out.num (P + s70 + (4 + 4 * s74))); clear n0 nf nl; generalize u74.setCell ⟨N, 2, none⟩ (.int .i64 (P + s70 + (4 + 4 * s74))) = f75 at *; replace HAT := Z_ HB.out.at_; clear hw1 hw2 hw3; obtain ⟨B, hB⟩ : ∃ B, f75.heap.size = B := ⟨_, rfl⟩; have hNB := HB.out.lt; have HOW := Z_ HB.out.own; rw [hB] at hNB HOW; have HN := Z_ ((dK (m - 1) (by omega)) _ _ HAT.out.pr (by first | exact HBD.out | exact fun _ => rfl | (intro e; have := HBD.out; simp_all)) (fun e => by cases e) rfl trivial (now_ne HT.out HNE.out)); go_wp2_with fail
     refine HN.out.mono ?_
     rintro e u76 ⟨hC, x76, v76, l76, b76, rfl, hv, hP, hrel⟩; replace HT := Z_ (now_bind HT.out HNE.out hrel); replace HBD := Z_ (rel_bad (b0 := b0) hrel (by first | exact HBD.out | exact fun _ => rfl | (intro e; have := HBD.out; simp_all))); replace HB := Z_ (HB.out.call hC hP); replace HAT := Z_ HB.out.at_; obtain ⟨ka76, ta76, ma76, aa76, na76, ca76, rfl⟩ := nd_form hv; have HV76 := Z_ hv; have hsz76 : f75.heap.size ≤ u76.heap.size := hC.size; clear hC hP hrel hv HN; rw [hB] at HV76 hsz76; have HK := Z_ (Kid.start HV76.out hSN hNB (fun i e => (HOW.out i e).2) hsz76 (c := #[.int .i64 ka76, .string ta76, .int .i64 ma76, .slice aa76 na76 ca76]) rfl); have hEx := (Chg.refl (fun _ => False) u76).alloc (.cells #[.int .i64 ka76, .string ta76, .int .i64 ma76, .slice aa76 na76 ca76] 66); replace HB := Z_ (HB.out.extend hEx); replace HAT := Z_ HB.out.at_
     clear hEx HOW; obtain ⟨XHK, hXHK⟩ : ∃ X, u76.heap.size = X := ⟨_, rfl⟩; rw [hXHK] at HK; go_upto_region 33 with (fail)
     generalize u76.alloc (.cells #[.int .i64 ka76, .string ta76, .int .i64 ma76, .slice aa76 na76 ca76] 66) = u9 at *; clear hB hNB hsz76 HV76; clear HAT; obtain ⟨us, hu1, ho, hu3⟩ := HB.out.grow.ex; have HO := Z_ ho; have HU := Z_ (And.intro hu1 hu3); have HOW := Z_ HB.out.own; clear ho hu1 hu3; have n0 := HB.out.nd.cell; have nf := HB.out.nd.frozen; have nl := HB.out.lt; have kc := HK.out.nd.cell; simp only [Value.cells] at kc; obtain ⟨i0_, hi, hz0, hz1, hz2⟩ := info_split info_node; go_upto_region 34 with (at_builtin; refine wpList_append_lies _ rfl _ _ 35 rfl (N + 1) 66 i0_ (.agg #[.int .i64 0, .string ⟨#[]⟩, .int .i64 0, .slice none 0 0]) 4 56 Tryz.underlying35 hi hz0 hz1 hz2 rfl (by decide) (.slice none 0 0) 0 (us.flatMap fun u => u.cells.toList) rfl (HO.out.alloc _) ⟨u9.heap.size, 0, none⟩ 1 1 [.int .i64 ka76, .string ta76, .int .i64 ma76, .slice aa76 na76 ca76] rfl rfl (by intro j q hj; have e : (⟨u9.heap.size, 0, none⟩ : Addr).add j = ⟨u9.heap.size, j, none⟩ := (by unfold Addr.add; split <;> simp_all); rw [e, (Blk.made u9 _ _).cell]; simpa using hj) (by intro q hq; simp at hq; rcases hq with rfl | rfl | rfl | rfl <;> rfl) (by decide) (by unfold maxLen; omega) (by omega) (by simp; omega) (u9.heap.size + 1) (by simp) ?_; intro g c' w4 hown hgrow hat hlt1; have HPU := Z_ (pushed HU.out.1 HU.out.2 HK.out.dat hown hgrow hat); have HBN := Z_ (grown_blk hgrow (HB.out.nd.alloc _) (fun e => by have := (HOW.out N e).1; omega)); have q1 := HBN.out.cell; have q1f := HBN.out.frozen; have q1l := HBN.out.lt; clear hown hgrow hat n0 nf nl kc HBN)
     obtain ⟨hG, hC, -⟩ := HPU.out; replace HB := Z_ (HB.out.more hG hC).put3; clear hG hC HPU q1 q1f q1l; simp only [List.length_nil, Nat.zero_add] at HB; generalize w4.setCell ⟨N, 3, none⟩ (.slice (some ⟨g, 0, none⟩) 1 c') = w6 at *; have HAT := Z_ HB.out.at_; obtain ⟨ra, rc, hrow⟩ := HB.out.slice3
     first | subst hrow | clear hrow
     have n0 := HB.out.nd.cell; have r0 := HB.out.at_.res.cell; have rf := HB.out.at_.res.frozen; have rl := HB.out.at_.res.lt; unfold zeroNd at r0; go_wp2_with fail
     refine ends_at rfl rfl rfl ((((HB.out.at_.res.set 0 _).set 1 _).set 2 _).set 3 _) Tryz.underlying66 rfl (by kernel_rfl) ?_
     first | exact HB.out.ret (by omega) HT.out | (subst hA; exact HB.out.ret (by omega) HT.out)
end synr
end Go.Proofs.YtpcihajmcejliabGreatDoor
