/- The walks of the printer's asked, place, stat, block. -/
import Derived.StillTailTactics
import Derived.Test.YtpcihajmcejliabGreatDoorPrtE
namespace Go.Proofs.YtpcihajmcejliabGreatDoor
open Go.RowKit
namespace prt
open synw
def askP (p : PO) : PO := (sayP [sOpen]).then (p.then (sayP [sClose]))
theorem ask_len (p : PO) : (askP p).2.length ≤ p.2.length + 2 := by
 unfold askP; rw [say_then]; have h := po_len p (sayP [sClose]); have h2 : (sayP [sClose]).2.length = 1 := rfl; simp only [List.length_cons, List.length_nil]; omega
theorem ng_kd {w : World} {x : Nd} {k m : Int} {t : ByteArray} {s : Value} (h : NgAt w x (.agg #[.int .i64 k, .string t, .int .i64 m, s])) : x.kd = k := by
 cases x with
 | mk k0 t0 m0 l0 =>
  rw [ngAt_mk] at h; obtain ⟨a, c, e, -⟩ := h; simp only [Value.agg.injEq, Array.mk.injEq, List.cons.injEq, Value.int.injEq] at e; show k0 = k
  exact e.1.2.symm
theorem stK_len : ∀ l, (stK l).length = l.length
 | [] => rfl
 | x :: r => by rw [stK, List.length_cons, List.length_cons, stK_len r]
theorem stL_len : ∀ l, (stL l).length = l.length
 | [] => rfl
 | x :: r => by rw [stL, List.length_cons, List.length_cons, stL_len r]
theorem stL_drop : ∀ (l : List Nd) (j : Nat) (hj : j < l.length), (stL l).drop j = stP l[j] :: (stL l).drop (j + 1)
 | x :: r, 0, _ => by rw [stL]; rfl
 | x :: r, j + 1, hj => by
  rw [stL, List.drop_succ_cons, List.drop_succ_cons, stL_drop r j (by simpa using hj)]; rfl
def placeB (k : Int) : Bool := decide (k = 16) || decide (k = 17)
set_option maxRecDepth 100000 in
theorem place_any (k m : Int) (t : ByteArray) (a : Option Addr) (n c : Nat) (u : World) :
  Calls Tryz.prog 295 #[.agg #[.int .i64 k, .string t, .int .i64 m, .slice a n c]] u (PlainPost (placeB k) (.tuple #[]) u) := by
 have HE := Z_ ((Chg.refl (fun _ => False) u).alloc (.cells #[.int .i64 k, .string t, .int .i64 m, .slice a n c] 66)); have HK := Z_ (Blk.made u #[.int .i64 k, .string t, .int .i64 m, .slice a n c] 66); obtain ⟨Nb, hNb⟩ : ∃ Nb, u.heap.size = Nb := ⟨_, rfl⟩; rw [hNb] at HK; by_cases h1 : k = 16
 ·subst h1
  go_enter Tryz.func295, Tryz.ntmps295
  go_upto_region 1 with (fail)
  try rw [hNb]
  generalize u.alloc (.cells #[.int .i64 16, .string t, .int .i64 m, .slice a n c] 66) = u0 at *; clear hNb; have hbc := HK.out.cell; go_wp2_with fail
  refine (must_any true _).mono ?_
  rintro e w9 ⟨rfl, rfl⟩; simp only [if_true]; go_wp2_with fail
  go_end0
  exact ⟨rfl, HE.out⟩
 ·by_cases h2 : k = 17
  ·subst h2
   go_enter Tryz.func295, Tryz.ntmps295
   go_upto_region 1 with (fail)
   try rw [hNb]
   generalize u.alloc (.cells #[.int .i64 17, .string t, .int .i64 m, .slice a n c] 66) = u0 at *; clear hNb; have hbc := HK.out.cell; go_wp2_with fail
   refine (must_any true _).mono ?_
   rintro e w9 ⟨rfl, rfl⟩; simp only [if_true]; go_wp2_with fail
   go_end0
   exact ⟨rfl, HE.out⟩
  ·have hb : placeB k = false := by unfold placeB; simp [h1, h2]
   rw [hb]; have b16 : (k == 16) = false := beq_eq_false_iff_ne.2 h1; have b17 : (k == 17) = false := beq_eq_false_iff_ne.2 h2; clear h1 h2 hb; go_enter Tryz.func295, Tryz.ntmps295
   go_upto_region 1 with (fail)
   try rw [hNb]
   generalize u.alloc (.cells #[.int .i64 k, .string t, .int .i64 m, .slice a n c] 66) = u0 at *; clear hNb; have hbc := HK.out.cell; go_wp2_with fail
   refine (must_any false _).mono ?_
   rintro e w9 ⟨rfl, rfl⟩; simp only [Bool.false_eq_true, if_false]; go_wp2_with fail
   exact ⟨rfl, rfl, HE.out⟩
set_option maxRecDepth 100000 in
set_option maxHeartbeats 4000000 in
theorem asked_any {W u : World} {S : Nat} {row : Value} {acc : List ByteArray} {x : Nd} {v : Value} (hx : ExC W S x) (h : PW W u S row acc) (hnd : NgAt W x v) (hm : acc.length + 12 * szF x + 2 ≤ 1000000) :
  Calls Tryz.prog 294 #[.pointer (some ⟨S, 0, none⟩), v] u (PPost W u S row acc (askP (exP 0 x))) := by
 obtain ⟨k, t, m, a, N, cc, rfl⟩ := ng_form hnd; have HX := Z_ (fun u row acc h => hx _ u row acc 0 h hnd); obtain ⟨p, hp⟩ : ∃ p, exP 0 x = p := ⟨_, rfl⟩; have hpl := exP_len x 0; rw [hp] at hpl HX ⊢; obtain ⟨T, hT⟩ : ∃ T, askP p = T := ⟨_, rfl⟩; have HT := Z_ (show PO.then (true, []) ((sayP [sOpen]).then (p.then ((sayP [sClose]).then (sayP [])))) = T by rw [← hT, ← then_one (sayP [sClose]), ← then_start]; rfl); rw [hT]; have HLEN := Z_ hm; have HB := Z_ (PB.made h #[.int .i64 k, .string t, .int .i64 m, .slice a N cc]).nil; obtain ⟨Nb, hNb⟩ : ∃ Nb, u.heap.size = Nb := ⟨_, rfl⟩; rw [hNb] at HB; clear hx hnd hp hT hm h; go_enter Tryz.func294, Tryz.ntmps294
 go_upto_region 1 with (fail)
 try rw [hNb]
 generalize u.alloc (.cells #[.int .i64 k, .string t, .int .i64 m, .slice a N cc] 66) = u0 at *; clear hNb; have hbc := HB.out.nb.cell; go_wp2_with fail
 clear hbc; refine (say_new HB.out.f.pw [sOpen] _ rfl 1 rfl (by decide) (by have h9 := HLEN.out; first | omega | (simp at h9 ⊢; omega))).mono ?_
 rintro e w3 ⟨rfl, row3, hF3⟩; replace HB := Z_ (HB.out.call hF3).assoc; clear hF3; rw [then_say] at HT; have HIK := Z_ (HX.out _ _ _ HB.out.f.pw (by have h9 := HLEN.out; first | omega | (simp at h9 ⊢; omega)) (by decide) (by decide)); have hbc := HB.out.nb.cell; go_wp2_with fail
 try clear hbc
 refine HIK.out.mono ?_
 rintro e w3 ⟨⟨row3, hF3⟩, he⟩; replace HB := Z_ (HB.out.call hF3).assoc; clear hF3 HIK HX; obtain ⟨pb, pw⟩ := p; cases pb with
 | false =>
  obtain rfl : e = _ := he; simp only [Bool.false_eq_true, if_false]; go_wp2_with fail
  exact ⟨rfl, ppost_bad (by rw [← HT.out, then_bad]) HB.out.f⟩
 | true =>
  obtain rfl : e = _ := he; rw [then_ok] at HT; simp only [if_true]; go_wp2_with fail
  refine (say_new HB.out.f.pw [sClose] _ rfl 1 rfl (by decide) (by have h9 := HLEN.out; first | omega | (simp at h9 ⊢; omega))).mono ?_
  rintro e w3 ⟨rfl, row3, hF3⟩; replace HB := Z_ (HB.out.call hF3).assoc; clear hF3; rw [then_say] at HT; go_wp2_with fail
  go_end0
  exact ppost_ok (by rw [← HT.out, then_nil]) HB.out.f
theorem named_n {t : ByteArray} {m : Int} {n : Nat} {a b c : Int} (h : namedB t m n a b c = true) : a ≤ (n : Int) ∧ (b < 0 ∨ (n : Int) ≤ b) := by
 unfold namedB kidsB at h; simp only [Bool.and_eq_true, Bool.or_eq_true, decide_eq_true_eq] at h; exact ⟨h.2.1.2, h.2.2⟩
def StC (W : World) (S : Nat) (x : Nd) : Prop := ∀ (v : Value) (u : World) (row : Value) (acc : List ByteArray), PW W u S row acc → NgAt W x v → acc.length + 12 * szF x ≤ 1000000 →
 Calls Tryz.prog 265 #[.pointer (some ⟨S, 0, none⟩), v] u (PPost W u S row acc (stP x))
def BlC (W : World) (S : Nat) (x : Nd) : Prop := ∀ (v : Value) (u : World) (row : Value) (acc : List ByteArray), PW W u S row acc → NgAt W x v → acc.length + 12 * szF x ≤ 1000000 →
 Calls Tryz.prog 232 #[.pointer (some ⟨S, 0, none⟩), v] u (PPost W u S row acc (blP x))
def bigS (p : PO × PO) : Nat := p.1.2.length + p.2.2.length - min p.1.2.length p.2.2.length + 1
theorem big_fst (p : PO × PO) : p.1.2.length + 1 ≤ bigS p := by unfold bigS; omega
theorem big_snd (p : PO × PO) : p.2.2.length + 1 ≤ bigS p := by unfold bigS; omega
def sumS (ks : List (PO × PO)) : Nat := (ks.map bigS).sum
theorem fst_le : ∀ (ks : List (PO × PO)), (kidP (ks.map Prod.fst) 0).2.length ≤ sumS ks
 | [] => by simp [kidP, sayP, sumS]
 | p :: r => by
  have h := big_fst p; simp only [List.map_cons, kidP, List.getD_cons_zero, sumS, List.sum_cons]; omega
theorem say_len (l : List ByteArray) (p : PO) : ((sayP l).then p).2.length = l.length + p.2.length := say_then l p
theorem must_le (b : Bool) (p : PO) : ((mustP b).then p).2.length ≤ p.2.length := by
 have h := must_then b p; split at h <;> omega
theorem must_le2 {b : Bool} {p : PO} {n : Nat} (h : b = true → p.2.length ≤ n) : ((mustP b).then p).2.length ≤ n := by
 cases b with
 | false => simp [PO.then, mustP]
 | true => have h2 := must_le true p; have h3 := h rfl; omega
theorem finS_len (k : Int) (t : ByteArray) (m kd : Int) (ks : List (PO × PO)) : (finS k t m kd ks).2.length ≤ sumS ks + 5 := by
 have hf := fst_le ks; have hsemi : (sayP [sSemi]).2.length = 1 := rfl
 have hone : ∀ (p : PO) (c : List ByteArray), ((sayP c).then (p.then (sayP [sSemi]))).2.length ≤ c.length + p.2.length + 1 := fun p c => by
  rw [say_len]; have := po_len p (sayP [sSemi]); omega
 unfold finS; split
 ·refine must_le2 fun hp => ?_
  obtain ⟨-, -, -, h2, h3⟩ := plain_n hp
  have hl : ks.length = 2 ∨ ks.length = 3 := by
   split at h3 <;> omega
  rcases hl with hl | hl
  ·match ks, hl with
   | [p, q], _ =>
    have hq := big_fst p; have hq2 := big_snd q; have e1 := po_len (kidP ([p, q].map Prod.fst) 0) ((sayP [sClose]).then ((kidP ([p, q].map Prod.snd) 1).then (sayP []))); have e2 := po_len (kidP ([p, q].map Prod.snd) 1) (sayP []); rw [say_len] at e1; rw [show (if 2 < [p, q].length then (sayP [sElse]).then (kidP ([p, q].map Prod.snd) 2) else sayP []) = sayP [] from if_neg (by simp), say_len, say_len]; have h7 : (kidP ([p, q].map Prod.fst) 0).2.length = p.1.2.length := rfl; have h8 : (kidP ([p, q].map Prod.snd) 1).2.length = q.2.2.length := rfl; have h9 : (sayP []).2.length = 0 := rfl; have h10 : sumS [p, q] = bigS p + (bigS q + 0) := rfl; simp only [List.length_cons, List.length_nil] at *; omega
  ·match ks, hl with
   | [p, q, r], _ =>
    have hq := big_fst p; have hq2 := big_snd q; have hq3 := big_snd r; have e1 := po_len (kidP ([p, q, r].map Prod.fst) 0) ((sayP [sClose]).then ((kidP ([p, q, r].map Prod.snd) 1).then ((sayP [sElse]).then (kidP ([p, q, r].map Prod.snd) 2)))); have e2 := po_len (kidP ([p, q, r].map Prod.snd) 1) ((sayP [sElse]).then (kidP ([p, q, r].map Prod.snd) 2)); rw [say_len] at e1 e2; rw [show (if 2 < [p, q, r].length then (sayP [sElse]).then (kidP ([p, q, r].map Prod.snd) 2) else sayP []) = (sayP [sElse]).then (kidP ([p, q, r].map Prod.snd) 2) from if_pos (by simp), say_len, say_len]; have h7 : (kidP ([p, q, r].map Prod.fst) 0).2.length = p.1.2.length := rfl; have h8 : (kidP ([p, q, r].map Prod.snd) 1).2.length = q.2.2.length := rfl; have h9 : (kidP ([p, q, r].map Prod.snd) 2).2.length = r.2.2.length := rfl; have h10 : sumS [p, q, r] = bigS p + (bigS q + (bigS r + 0)) := rfl; simp only [List.length_cons, List.length_nil] at *
    omega
 ·split
  ·refine Nat.le_trans (must_le _ _) ?_
   rw [say_len]; have := hone (kidP (ks.map Prod.fst) 0) [t, sEq]; simp only [List.length_cons, List.length_nil] at *; omega
  ·split
   ·refine must_le2 fun hp => ?_
    obtain ⟨-, -, -, h2, h3⟩ := plain_n hp; refine Nat.le_trans (must_le _ _) ?_
    have hl : ks.length = 2 := by omega
    match ks, hl with
    | [p, q], _ =>
     have hq := big_fst p; have hq2 := big_fst q; have e1 := po_len (kidP ([p, q].map Prod.fst) 0) ((sayP [sEq]).then ((kidP ([p, q].map Prod.fst) 1).then (sayP [sSemi]))); have e2 := hone (kidP ([p, q].map Prod.fst) 1) [sEq]; have h7 : (kidP ([p, q].map Prod.fst) 0).2.length = p.1.2.length := rfl; have h8 : (kidP ([p, q].map Prod.fst) 1).2.length = q.1.2.length := rfl; have h10 : sumS [p, q] = bigS p + (bigS q + 0) := rfl; simp only [List.length_cons, List.length_nil] at *; omega
   ·split
    ·refine Nat.le_trans (must_le _ _) (Nat.le_trans (must_le _ _) ?_)
     have := hone (kidP (ks.map Prod.fst) 0) [sDo]; simp only [List.length_cons, List.length_nil] at *; omega
    ·split
     ·refine Nat.le_trans (must_le _ _) (Nat.le_trans (must_le _ _) ?_)
      rw [say_len]; have := hone (kidP (ks.map Prod.fst) 0) [labW (decide (m = 1))]; simp only [List.length_cons, List.length_nil] at *; omega
     ·refine Nat.le_trans (must_le _ _) (Nat.le_trans (must_le _ _) ?_)
      have := hone (kidP (ks.map Prod.fst) 0) [sReturn]; simp only [List.length_cons, List.length_nil] at *; omega
theorem seq_len : ∀ (l : List PO), (seqP l).2.length ≤ sumP l
 | [] => by simp [seqP, sayP, sumP]
 | a :: r => by
  have h := seq_len r; have h2 := po_len a (seqP r); simp only [seqP, sumP, List.map_cons, List.sum_cons] at *; omega
theorem finB_len (k : Int) (t : ByteArray) (m : Int) (ks : List PO) : (finB k t m ks).2.length ≤ sumP ks + 2 := by
 unfold finB; refine Nat.le_trans (must_le _ _) (Nat.le_trans (must_le _ _) ?_)
 rw [say_len]; have h1 := seq_len ks; have h2 := po_len (seqP ks) (sayP [sLruc]); have h3 : (sayP [sLruc]).2.length = 1 := rfl; simp only [List.length_cons, List.length_nil] at *; omega
theorem stP_len : ∀ (x : Nd), (stP x).2.length + 1 ≤ 12 * szF x ∧ (blP x).2.length + 1 ≤ 12 * szF x := by
 refine nd_ind fun k t m l ih => ?_
 have hK : ∀ (r : List Nd), (∀ x ∈ r, x ∈ l) → sumS (stK r) ≤ 12 * szL r ∧ sumP (stL r) ≤ 12 * szL r := by
  intro r; induction r with
  | nil => intro _; simp [stK, stL, sumS, sumP]
  | cons x r ih2 =>
   intro hr; have h1 := ih x (hr x (List.mem_cons_self ..)); have h2 := ih2 (fun y hy => hr y (List.mem_cons_of_mem _ hy)); have h3 := exP_len x 0; simp only [stK, stL, sumS, sumP, bigS, List.map_cons, List.sum_cons, szL] at h2 ⊢; omega
 have h2 := hK l (fun x hx => hx); have h3 := finS_len k t m (kd0 l) (stK l); have h4 := finB_len k t m (stL l); rw [stP, blP]; simp only [szF]; omega
theorem askP_len (x : Nd) : (askP (exP 0 x)).2.length ≤ 12 * szF x + 1 := by
 have h1 := ask_len (exP 0 x); have h2 := exP_len x 0; omega
set_option maxRecDepth 100000 in
set_option maxHeartbeats 16000000 in
theorem stat_any {W : World} {S : Nat} (hv : ErrVar W) (hmv : MaxVar W) (htab : Lib.TabIs Tryz.prog W "internal/strconv.uint64pow10" .u64 Lib.pow10Tab) (k : Int) (t : ByteArray) (m : Int) (l : List Nd) (ih : ∀ x ∈ l, BlC W S x) : StC W S (.mk k t m l) := by
 intro v u row acc h hnd hm; rw [ngAt_mk] at hnd; obtain ⟨a, cc, rfl, hc1, hc2, ⟨hts, hmi⟩, hrow⟩ := hnd; obtain ⟨N, hN⟩ : ∃ N, l.length = N := ⟨_, rfl⟩; rw [hN] at hc1 ⊢; have hNm : N ≤ 9223372036854775807 := by unfold maxLen at hc2; omega
 have HN := Z_ hN; have HI := Z_ hrow; have HIH := Z_ ih; have HEX := Z_ (expr_any (S := S) hv hmv htab); have HV := Z_ hv; have HMV := Z_ hmv; have HLEN := Z_ (show acc.length + 12 * (1 + szL l) ≤ 1000000 from by simp only [szF] at hm; omega); have HTS := Z_ hts; have HB := Z_ (PB.made h #[.int .i64 k, .string t, .int .i64 m, .slice a N cc]).nil; obtain ⟨Nb, hNb⟩ : ∃ Nb, u.heap.size = Nb := ⟨_, rfl⟩; rw [hNb] at HB; obtain ⟨ks, hks⟩ : ∃ ks, stK l = ks := ⟨_, rfl⟩; have hkn : ks.length = N := by rw [← hks, stK_len, hN]
 obtain ⟨kd, hkd⟩ : ∃ kd, kd0 l = kd := ⟨_, rfl⟩; rw [stP, hks, hkd]; have HKS := Z_ hks; have HKD := Z_ hkd; obtain ⟨T, hT⟩ : ∃ T, finS k t m kd ks = T := ⟨_, rfl⟩; rw [hT]; unfold finS at hT; rw [hkn] at hT; clear hrow ih hv hmv htab hm hts hmi h hN hks hkd hkn; by_cases k10 : k = 10 ∨ k = 11
 ·rcases k10 with rfl | rfl
  ·
   rw [if_pos (by decide)] at hT; have HT := Z_ (show PO.then (true, []) ((mustP (plainB t m N 2 3 0)).then ((sayP [sIf]).then ((askP (kidP (ks.map Prod.fst) 0)).then ((kidP (ks.map Prod.snd) 1).then (if 2 < N then (sayP [sElse]).then (kidP (ks.map Prod.snd) 2) else sayP []))))) = T by rw [← hT, ← then_start]; unfold askP; simp only [then_assoc]; rfl); clear hT; obtain ⟨pb, hpb⟩ : ∃ pb, plainB t m N 2 3 0 = pb := ⟨_, rfl⟩; have HPL := Z_ (fun w => plain_any 10 m t a N cc 2 3 0 w); rw [hpb] at HPL HT; have HPB := Z_ hpb; clear hpb; go_enter Tryz.func265, Tryz.ntmps265
   go_upto_region 1 with (fail)
   try rw [hNb]
   generalize u.alloc (.cells #[.int .i64 10, .string t, .int .i64 m, .slice a N cc] 66) = u0 at *; clear hNb; have hbc := HB.out.nb.cell; go_wp2_with fail
   try clear hbc
   refine (HPL.out _).mono ?_
   rintro e w3 ⟨he, hE3⟩; replace HB := Z_ (HB.out.extend hE3); clear hE3; cases pb with
   | false =>
    obtain rfl : e = _ := he; simp only [Bool.false_eq_true, if_false]; go_wp2_with fail
    exact ⟨rfl, ppost_bad (by rw [← HT.out, then_no]) HB.out.f⟩
   | true =>
    obtain rfl : e = _ := he; rw [then_yes] at HT; simp only [if_true]; have hn23 : N = 2 ∨ N = 3 := by have h := plain_n HPB.out; omega
    have hbc := HB.out.nb.cell; go_wp2_with fail
    try clear hbc
    refine (say_new HB.out.f.pw [sIf] _ rfl 1 rfl (by decide) (by have h9 := HLEN.out; first | omega | (simp at h9 ⊢; omega))).mono ?_
    rintro e w3 ⟨rfl, row3, hF3⟩; replace HB := Z_ (HB.out.call hF3).assoc; clear hF3; rw [then_say] at HT; rcases hn23 with hn2 | hn3
    ·have HNN := Z_ hn2
     clear hn2; rw [if_neg (by rw [HNN.out]; decide)] at HT; have hNn : l.length = 2 := by have h1 := HN.out; have h2 := HNN.out; omega
     obtain ⟨x, y, rfl⟩ : ∃ x y, l = [x, y] := by match l, hNn with | [x, y], _ => exact ⟨x, y, rfl⟩
     have hkp : kidP (ks.map Prod.fst) 0 = exP 0 x := by rw [← HKS.out]; rfl
     obtain ⟨p, hp⟩ : ∃ p, askP (exP 0 x) = p := ⟨_, rfl⟩; have hpl := askP_len x; rw [hp] at hpl; rw [hkp, hp] at HT; have HPp := Z_ hp; clear hp hkp; have hkq : kidP (ks.map Prod.snd) 1 = blP y := by rw [← HKS.out]; rfl
     obtain ⟨q, hq⟩ : ∃ q, blP y = q := ⟨_, rfl⟩; have hql := (stP_len y).2; rw [hq] at hql; rw [hkq, hq] at HT; have HPq := Z_ hq; clear hq hkq; obtain rfl : N = 2 := HNN.out; have hsz : szL [x, y] = szF x + szF y := by simp only [szL]; omega
     clear hNn; have hi0 : (0 : Int) < (2 : Int) := by decide
     have hi1 : (1 : Int) < (2 : Int) := by decide
     obtain ⟨b, o, k1, t1, m1, a1, n1, c1, ha, hu, q0, q1, q2, q3⟩ := kid_at HB.out.f.pw.ext HI.out 0 (by simp)
     first | subst ha | cases ha
     first | simp only [Nat.zero_mul, Nat.add_zero] at q0 q1 q2 q3 | simp only [Nat.one_mul] at q0 q1 q2 q3 | skip
     have HIK := Z_ (asked_any (HEX.out x) HB.out.f.pw hu (by have h9 := HLEN.out; first | omega | (simp at h9 ⊢; omega))); rw [HPp.out] at HIK; have hbc := HB.out.nb.cell; clear hu; go_wp2_with fail
     try clear hbc
     clear q0 q1 q2 q3; refine HIK.out.mono ?_
     rintro e w3 ⟨⟨row3, hF3⟩, he⟩; replace HB := Z_ (HB.out.call hF3).assoc; clear hF3 HIK; obtain ⟨pb, pw⟩ := p; cases pb with
     | false =>
      obtain rfl : e = _ := he; simp only [Bool.false_eq_true, if_false]; go_wp2_with fail
      exact ⟨rfl, ppost_bad (by rw [← HT.out, then_bad]) HB.out.f⟩
     | true =>
      obtain rfl : e = _ := he; rw [then_ok] at HT; simp only [if_true]
      try simp only at hpl
      obtain ⟨b, o, k1, t1, m1, a1, n1, c1, ha, hu, q0, q1, q2, q3⟩ := kid_at HB.out.f.pw.ext HI.out 1 (by simp); cases ha
      first | simp only [Nat.zero_mul, Nat.add_zero] at q0 q1 q2 q3 | simp only [Nat.one_mul] at q0 q1 q2 q3 | skip
      have HIK := Z_ (HIH.out y (by simp) _ _ _ _ HB.out.f.pw hu (by have h9 := HLEN.out; first | omega | (simp at h9 ⊢; omega))); rw [HPq.out] at HIK; have hbc := HB.out.nb.cell; clear hu; go_wp2_with fail
      try clear hbc
      clear q0 q1 q2 q3; refine HIK.out.mono ?_
      rintro e w3 ⟨⟨row3, hF3⟩, he⟩; replace HB := Z_ (HB.out.call hF3).assoc; clear hF3 HIK; obtain ⟨qb, qw⟩ := q; cases qb with
      | false =>
       obtain rfl : e = _ := he; simp only [Bool.false_eq_true, if_false]; go_wp2_with fail
       exact ⟨rfl, ppost_bad (by rw [← HT.out, then_bad]) HB.out.f⟩
      | true =>
       obtain rfl : e = _ := he; rw [then_ok] at HT; simp only [if_true]
       try simp only at hql
       have hbc := HB.out.nb.cell; go_wp2_with fail
       go_end0
       exact ppost_ok (by rw [← HT.out, then_nil]) HB.out.f
    ·have HNN := Z_ hn3
     clear hn3; rw [if_pos (by rw [HNN.out]; decide), then_one (kidP (ks.map Prod.snd) 2)] at HT; have hNn : l.length = 3 := by have h1 := HN.out; have h2 := HNN.out; omega
     obtain ⟨x, y, z, rfl⟩ : ∃ x y z, l = [x, y, z] := by match l, hNn with | [x, y, z], _ => exact ⟨x, y, z, rfl⟩
     have hkp : kidP (ks.map Prod.fst) 0 = exP 0 x := by rw [← HKS.out]; rfl
     obtain ⟨p, hp⟩ : ∃ p, askP (exP 0 x) = p := ⟨_, rfl⟩; have hpl := askP_len x; rw [hp] at hpl; rw [hkp, hp] at HT; have HPp := Z_ hp; clear hp hkp; have hkq : kidP (ks.map Prod.snd) 1 = blP y := by rw [← HKS.out]; rfl
     obtain ⟨q, hq⟩ : ∃ q, blP y = q := ⟨_, rfl⟩; have hql := (stP_len y).2; rw [hq] at hql; rw [hkq, hq] at HT; have HPq := Z_ hq; clear hq hkq; have hkr : kidP (ks.map Prod.snd) 2 = blP z := by rw [← HKS.out]; rfl
     obtain ⟨r, hr⟩ : ∃ r, blP z = r := ⟨_, rfl⟩; have hrl := (stP_len z).2; rw [hr] at hrl; rw [hkr, hr] at HT; have HPr := Z_ hr; clear hr hkr; obtain rfl : N = 3 := HNN.out; have hsz : szL [x, y, z] = szF x + szF y + szF z := by simp only [szL]; omega
     clear hNn; have hi0 : (0 : Int) < (3 : Int) := by decide
     have hi1 : (1 : Int) < (3 : Int) := by decide
     have hi2 : (2 : Int) < (3 : Int) := by decide
     obtain ⟨b, o, k1, t1, m1, a1, n1, c1, ha, hu, q0, q1, q2, q3⟩ := kid_at HB.out.f.pw.ext HI.out 0 (by simp)
     first | subst ha | cases ha
     first | simp only [Nat.zero_mul, Nat.add_zero] at q0 q1 q2 q3 | simp only [Nat.one_mul] at q0 q1 q2 q3 | skip
     have HIK := Z_ (asked_any (HEX.out x) HB.out.f.pw hu (by have h9 := HLEN.out; first | omega | (simp at h9 ⊢; omega))); rw [HPp.out] at HIK; have hbc := HB.out.nb.cell; clear hu; go_wp2_with fail
     try clear hbc
     clear q0 q1 q2 q3; refine HIK.out.mono ?_
     rintro e w3 ⟨⟨row3, hF3⟩, he⟩; replace HB := Z_ (HB.out.call hF3).assoc; clear hF3 HIK; obtain ⟨pb, pw⟩ := p; cases pb with
     | false =>
      obtain rfl : e = _ := he; simp only [Bool.false_eq_true, if_false]; go_wp2_with fail
      exact ⟨rfl, ppost_bad (by rw [← HT.out, then_bad]) HB.out.f⟩
     | true =>
      obtain rfl : e = _ := he; rw [then_ok] at HT; simp only [if_true]
      try simp only at hpl
      obtain ⟨b, o, k1, t1, m1, a1, n1, c1, ha, hu, q0, q1, q2, q3⟩ := kid_at HB.out.f.pw.ext HI.out 1 (by simp); cases ha
      first | simp only [Nat.zero_mul, Nat.add_zero] at q0 q1 q2 q3 | simp only [Nat.one_mul] at q0 q1 q2 q3 | skip
      have HIK := Z_ (HIH.out y (by simp) _ _ _ _ HB.out.f.pw hu (by have h9 := HLEN.out; first | omega | (simp at h9 ⊢; omega))); rw [HPq.out] at HIK; have hbc := HB.out.nb.cell; clear hu; go_wp2_with fail
      try clear hbc
      clear q0 q1 q2 q3; refine HIK.out.mono ?_
      rintro e w3 ⟨⟨row3, hF3⟩, he⟩; replace HB := Z_ (HB.out.call hF3).assoc; clear hF3 HIK; obtain ⟨qb, qw⟩ := q; cases qb with
      | false =>
       obtain rfl : e = _ := he; simp only [Bool.false_eq_true, if_false]; go_wp2_with fail
       exact ⟨rfl, ppost_bad (by rw [← HT.out, then_bad]) HB.out.f⟩
      | true =>
       obtain rfl : e = _ := he; rw [then_ok] at HT; simp only [if_true]
       try simp only at hql
       have hbc := HB.out.nb.cell; go_wp2_with fail
       try clear hbc
       refine (say_new HB.out.f.pw [sElse] _ rfl 1 rfl (by decide) (by have h9 := HLEN.out; first | omega | (simp at h9 ⊢; omega))).mono ?_
       rintro e w3 ⟨rfl, row3, hF3⟩; replace HB := Z_ (HB.out.call hF3).assoc; clear hF3; rw [then_say] at HT; obtain ⟨b, o, k1, t1, m1, a1, n1, c1, ha, hu, q0, q1, q2, q3⟩ := kid_at HB.out.f.pw.ext HI.out 2 (by simp); cases ha
       first | simp only [Nat.zero_mul, Nat.add_zero] at q0 q1 q2 q3 | simp only [Nat.one_mul] at q0 q1 q2 q3 | skip
       have HIK := Z_ (HIH.out z (by simp) _ _ _ _ HB.out.f.pw hu (by have h9 := HLEN.out; first | omega | (simp at h9 ⊢; omega))); rw [HPr.out] at HIK; have hbc := HB.out.nb.cell; clear hu; go_wp2_with fail
       try clear hbc
       clear q0 q1 q2 q3; refine HIK.out.mono ?_
       rintro e w3 ⟨⟨row3, hF3⟩, he⟩; replace HB := Z_ (HB.out.call hF3).assoc; clear hF3 HIK; obtain ⟨rb, rw⟩ := r; cases rb with
       | false =>
        obtain rfl : e = _ := he; simp only [Bool.false_eq_true, if_false]; go_wp2_with fail
        exact ⟨rfl, ppost_bad (by rw [← HT.out, then_bad]) HB.out.f⟩
       | true =>
        obtain rfl : e = _ := he; rw [then_ok] at HT; simp only [if_true]
        try simp only at hrl
        go_wp2_with fail
        go_end0
        exact ppost_ok (by rw [← HT.out, then_nil]) HB.out.f
  ·
   rw [if_pos (by decide)] at hT; have HT := Z_ (show PO.then (true, []) ((mustP (plainB t m N 2 2 0)).then ((sayP [sWhile]).then ((askP (kidP (ks.map Prod.fst) 0)).then ((kidP (ks.map Prod.snd) 1).then (if 2 < N then (sayP [sElse]).then (kidP (ks.map Prod.snd) 2) else sayP []))))) = T by rw [← hT, ← then_start]; unfold askP; simp only [then_assoc]; rfl); clear hT; obtain ⟨pb, hpb⟩ : ∃ pb, plainB t m N 2 2 0 = pb := ⟨_, rfl⟩; have HPL := Z_ (fun w => plain_any 11 m t a N cc 2 2 0 w); rw [hpb] at HPL HT; have HPB := Z_ hpb; clear hpb; go_enter Tryz.func265, Tryz.ntmps265
   go_upto_region 1 with (fail)
   try rw [hNb]
   generalize u.alloc (.cells #[.int .i64 11, .string t, .int .i64 m, .slice a N cc] 66) = u0 at *; clear hNb; have hbc := HB.out.nb.cell; go_wp2_with fail
   try clear hbc
   refine (HPL.out _).mono ?_
   rintro e w3 ⟨he, hE3⟩; replace HB := Z_ (HB.out.extend hE3); clear hE3; cases pb with
   | false =>
    obtain rfl : e = _ := he; simp only [Bool.false_eq_true, if_false]; go_wp2_with fail
    exact ⟨rfl, ppost_bad (by rw [← HT.out, then_no]) HB.out.f⟩
   | true =>
    obtain rfl : e = _ := he; rw [then_yes] at HT; simp only [if_true]; have HNN := Z_ (show N = 2 from by have h := plain_n HPB.out; omega); have hbc := HB.out.nb.cell; go_wp2_with fail
    try clear hbc
    refine (say_new HB.out.f.pw [sWhile] _ rfl 1 rfl (by decide) (by have h9 := HLEN.out; first | omega | (simp at h9 ⊢; omega))).mono ?_
    rintro e w3 ⟨rfl, row3, hF3⟩; replace HB := Z_ (HB.out.call hF3).assoc; clear hF3; rw [then_say] at HT; rw [if_neg (by rw [HNN.out]; decide)] at HT; have hNn : l.length = 2 := by have h1 := HN.out; have h2 := HNN.out; omega
    obtain ⟨x, y, rfl⟩ : ∃ x y, l = [x, y] := by match l, hNn with | [x, y], _ => exact ⟨x, y, rfl⟩
    have hkp : kidP (ks.map Prod.fst) 0 = exP 0 x := by rw [← HKS.out]; rfl
    obtain ⟨p, hp⟩ : ∃ p, askP (exP 0 x) = p := ⟨_, rfl⟩; have hpl := askP_len x; rw [hp] at hpl; rw [hkp, hp] at HT; have HPp := Z_ hp; clear hp hkp; have hkq : kidP (ks.map Prod.snd) 1 = blP y := by rw [← HKS.out]; rfl
    obtain ⟨q, hq⟩ : ∃ q, blP y = q := ⟨_, rfl⟩; have hql := (stP_len y).2; rw [hq] at hql; rw [hkq, hq] at HT; have HPq := Z_ hq; clear hq hkq; obtain rfl : N = 2 := HNN.out; have hsz : szL [x, y] = szF x + szF y := by simp only [szL]; omega
    clear hNn; have hi0 : (0 : Int) < (2 : Int) := by decide
    have hi1 : (1 : Int) < (2 : Int) := by decide
    obtain ⟨b, o, k1, t1, m1, a1, n1, c1, ha, hu, q0, q1, q2, q3⟩ := kid_at HB.out.f.pw.ext HI.out 0 (by simp)
    first | subst ha | cases ha
    first | simp only [Nat.zero_mul, Nat.add_zero] at q0 q1 q2 q3 | simp only [Nat.one_mul] at q0 q1 q2 q3 | skip
    have HIK := Z_ (asked_any (HEX.out x) HB.out.f.pw hu (by have h9 := HLEN.out; first | omega | (simp at h9 ⊢; omega))); rw [HPp.out] at HIK; have hbc := HB.out.nb.cell; clear hu; go_wp2_with fail
    try clear hbc
    clear q0 q1 q2 q3; refine HIK.out.mono ?_
    rintro e w3 ⟨⟨row3, hF3⟩, he⟩; replace HB := Z_ (HB.out.call hF3).assoc; clear hF3 HIK; obtain ⟨pb, pw⟩ := p; cases pb with
    | false =>
     obtain rfl : e = _ := he; simp only [Bool.false_eq_true, if_false]; go_wp2_with fail
     exact ⟨rfl, ppost_bad (by rw [← HT.out, then_bad]) HB.out.f⟩
    | true =>
     obtain rfl : e = _ := he; rw [then_ok] at HT; simp only [if_true]
     try simp only at hpl
     obtain ⟨b, o, k1, t1, m1, a1, n1, c1, ha, hu, q0, q1, q2, q3⟩ := kid_at HB.out.f.pw.ext HI.out 1 (by simp); cases ha
     first | simp only [Nat.zero_mul, Nat.add_zero] at q0 q1 q2 q3 | simp only [Nat.one_mul] at q0 q1 q2 q3 | skip
     have HIK := Z_ (HIH.out y (by simp) _ _ _ _ HB.out.f.pw hu (by have h9 := HLEN.out; first | omega | (simp at h9 ⊢; omega))); rw [HPq.out] at HIK; have hbc := HB.out.nb.cell; clear hu; go_wp2_with fail
     try clear hbc
     clear q0 q1 q2 q3; refine HIK.out.mono ?_
     rintro e w3 ⟨⟨row3, hF3⟩, he⟩; replace HB := Z_ (HB.out.call hF3).assoc; clear hF3 HIK; obtain ⟨qb, qw⟩ := q; cases qb with
     | false =>
      obtain rfl : e = _ := he; simp only [Bool.false_eq_true, if_false]; go_wp2_with fail
      exact ⟨rfl, ppost_bad (by rw [← HT.out, then_bad]) HB.out.f⟩
     | true =>
      obtain rfl : e = _ := he; rw [then_ok] at HT; simp only [if_true]
      try simp only at hql
      have hbc := HB.out.nb.cell; go_wp2_with fail
      go_end0
      exact ppost_ok (by rw [← HT.out, then_nil]) HB.out.f
 rw [if_neg k10] at hT; by_cases k7 : k = 7
 ·
  subst k7; rw [if_pos rfl] at hT; clear k10; have HT := Z_ (show PO.then (true, []) ((mustP (namedB t m N 1 1 1)).then ((sayP [labW (decide (m = 1))]).then ((sayP [t, sEq]).then ((kidP (ks.map Prod.fst) 0).then ((sayP [sSemi]).then (sayP [])))))) = T by rw [← hT, ← then_one (sayP [sSemi]), ← then_start]); clear hT ; obtain ⟨pb, hpb⟩ : ∃ pb, namedB t m N 1 1 1 = pb := ⟨_, rfl⟩; have HPL := Z_ (fun w (hE : Ext W w) => named_any 7 m t a N cc 1 1 1 w HTS.out (HV.out.ext hE) (HMV.out.ext hE)); rw [hpb] at HPL HT; have HPB := Z_ hpb; clear hpb; go_enter Tryz.func265, Tryz.ntmps265
  go_upto_region 1 with (fail)
  try rw [hNb]
  generalize u.alloc (.cells #[.int .i64 7, .string t, .int .i64 m, .slice a N cc] 66) = u0 at *; clear hNb; have hbc := HB.out.nb.cell; go_wp2_with fail
  try clear hbc
  refine (HPL.out _ HB.out.f.pw.ext).mono ?_
  rintro e w3 ⟨he, hE3⟩; replace HB := Z_ (HB.out.extend hE3); clear hE3; cases pb with
  | false =>
   obtain rfl : e = _ := he; simp only [Bool.false_eq_true, if_false]; go_wp2_with fail
   exact ⟨rfl, ppost_bad (by rw [← HT.out, then_no]) HB.out.f⟩
  | true =>
   obtain rfl : e = _ := he; rw [then_yes] at HT; simp only [if_true]; have HNN := Z_ (show N = 1 from by have h := named_n HPB.out; omega); have hbc := HB.out.nb.cell; go_wp2_with fail
   try clear hbc
   refine (label_any HB.out.f.pw (decide (m = 1)) (by have h9 := HLEN.out; first | omega | (simp at h9 ⊢; omega))).mono ?_
   rintro e w3 ⟨rfl, row3, hF3⟩; replace HB := Z_ (HB.out.call hF3).assoc; clear hF3; rw [then_say] at HT; go_wp2_with fail
   try clear hbc
   refine (say_new HB.out.f.pw [t, sEq] _ rfl 2 rfl (by decide) (by have h9 := HLEN.out; first | omega | (simp at h9 ⊢; omega))).mono ?_
   rintro e w3 ⟨rfl, row3, hF3⟩; replace HB := Z_ (HB.out.call hF3).assoc; clear hF3; rw [then_say] at HT; have hNn : l.length = 1 := by have h1 := HN.out; have h2 := HNN.out; omega
   obtain ⟨x, rfl⟩ : ∃ x, l = [x] := by match l, hNn with | [x], _ => exact ⟨x, rfl⟩
   have hkp : kidP (ks.map Prod.fst) 0 = exP 0 x := by rw [← HKS.out]; rfl
   obtain ⟨p, hp⟩ : ∃ p, exP 0 x = p := ⟨_, rfl⟩; have hpl := exP_len x 0; rw [hp] at hpl; rw [hkp, hp] at HT; have HPp := Z_ hp; clear hp hkp; obtain rfl : N = 1 := HNN.out; have hsz : szL [x] = szF x := by simp only [szL]; omega
   clear hNn; have hi0 : (0 : Int) < (1 : Int) := by decide
   obtain ⟨b, o, k1, t1, m1, a1, n1, c1, ha, hu, q0, q1, q2, q3⟩ := kid_at HB.out.f.pw.ext HI.out 0 (by simp)
   first | subst ha | cases ha
   first | simp only [Nat.zero_mul, Nat.add_zero] at q0 q1 q2 q3 | simp only [Nat.one_mul] at q0 q1 q2 q3 | skip
   have HIK := Z_ (HEX.out x _ _ _ _ 0 HB.out.f.pw hu (by have h9 := HLEN.out; first | omega | (simp at h9 ⊢; omega)) (by decide) (by decide)); rw [HPp.out] at HIK; have hbc := HB.out.nb.cell; clear hu; go_wp2_with fail
   try clear hbc
   clear q0 q1 q2 q3; refine HIK.out.mono ?_
   rintro e w3 ⟨⟨row3, hF3⟩, he⟩; replace HB := Z_ (HB.out.call hF3).assoc; clear hF3 HIK; obtain ⟨pb, pw⟩ := p; cases pb with
   | false =>
    obtain rfl : e = _ := he; simp only [Bool.false_eq_true, if_false]; go_wp2_with fail
    exact ⟨rfl, ppost_bad (by rw [← HT.out, then_bad]) HB.out.f⟩
   | true =>
    obtain rfl : e = _ := he; rw [then_ok] at HT; simp only [if_true]
    try simp only at hpl
    go_wp2_with fail
    try clear hbc
    refine (say_new HB.out.f.pw [sSemi] _ rfl 1 rfl (by decide) (by have h9 := HLEN.out; first | omega | (simp at h9 ⊢; omega))).mono ?_
    rintro e w3 ⟨rfl, row3, hF3⟩; replace HB := Z_ (HB.out.call hF3).assoc; clear hF3; rw [then_say] at HT; go_wp2_with fail
    go_end0
    exact ppost_ok (by rw [← HT.out, then_nil]) HB.out.f
 rw [if_neg k7] at hT; by_cases k8 : k = 8
 ·
  subst k8; rw [if_pos rfl] at hT; clear k10 k7; have HT := Z_ (show PO.then (true, []) ((mustP (plainB t m N 2 2 0)).then ((mustP (decide (kd = 16) || decide (kd = 17))).then ((kidP (ks.map Prod.fst) 0).then ((sayP [sEq]).then ((kidP (ks.map Prod.fst) 1).then ((sayP [sSemi]).then (sayP []))))))) = T by rw [← hT, ← then_one (sayP [sSemi]), ← then_start]); clear hT ; obtain ⟨pb, hpb⟩ : ∃ pb, plainB t m N 2 2 0 = pb := ⟨_, rfl⟩; have HPL := Z_ (fun w => plain_any 8 m t a N cc 2 2 0 w); rw [hpb] at HPL HT; have HPB := Z_ hpb; clear hpb; go_enter Tryz.func265, Tryz.ntmps265
  go_upto_region 1 with (fail)
  try rw [hNb]
  generalize u.alloc (.cells #[.int .i64 8, .string t, .int .i64 m, .slice a N cc] 66) = u0 at *; clear hNb; have hbc := HB.out.nb.cell; go_wp2_with fail
  try clear hbc
  refine (HPL.out _).mono ?_
  rintro e w3 ⟨he, hE3⟩; replace HB := Z_ (HB.out.extend hE3); clear hE3; cases pb with
  | false =>
   obtain rfl : e = _ := he; simp only [Bool.false_eq_true, if_false]; go_wp2_with fail
   exact ⟨rfl, ppost_bad (by rw [← HT.out, then_no]) HB.out.f⟩
  | true =>
   obtain rfl : e = _ := he; rw [then_yes] at HT; simp only [if_true]; have HNN := Z_ (show N = 2 from by have h := plain_n HPB.out; omega); have hNn : l.length = 2 := by have h1 := HN.out; have h2 := HNN.out; omega
   obtain ⟨x, y, rfl⟩ : ∃ x y, l = [x, y] := by match l, hNn with | [x, y], _ => exact ⟨x, y, rfl⟩
   have hkp : kidP (ks.map Prod.fst) 0 = exP 0 x := by rw [← HKS.out]; rfl
   obtain ⟨p, hp⟩ : ∃ p, exP 0 x = p := ⟨_, rfl⟩; have hpl := exP_len x 0; rw [hp] at hpl; rw [hkp, hp] at HT; have HPp := Z_ hp; clear hp hkp; have hkq : kidP (ks.map Prod.fst) 1 = exP 0 y := by rw [← HKS.out]; rfl
   obtain ⟨q, hq⟩ : ∃ q, exP 0 y = q := ⟨_, rfl⟩; have hql := exP_len y 0; rw [hq] at hql; rw [hkq, hq] at HT; have HPq := Z_ hq; clear hq hkq; obtain rfl : N = 2 := HNN.out; have hsz : szL [x, y] = szF x + szF y := by simp only [szL]; omega
   clear hNn; have hi0 : (0 : Int) < (2 : Int) := by decide
   have hi1 : (1 : Int) < (2 : Int) := by decide
   obtain ⟨b, o, k1, t1, m1, a1, n1, c1, ha, hu, q0, q1, q2, q3⟩ := kid_at HB.out.f.pw.ext HI.out 0 (by simp)
   first | subst ha | cases ha
   first | simp only [Nat.zero_mul, Nat.add_zero] at q0 q1 q2 q3 | simp only [Nat.one_mul] at q0 q1 q2 q3 | skip
   have HPQ := Z_ (fun w => place_any k1 m1 t1 a1 n1 c1 w); have hkk : kd = k1 := by rw [← HKD.out]; exact ng_kd hu
   subst hkk; have hbc := HB.out.nb.cell; go_wp2_with fail
   try clear hbc
   refine (HPQ.out _).mono ?_
   rintro e w3 ⟨he, hE3⟩; replace HB := Z_ (HB.out.extend hE3); clear hE3 HPQ q0 q1 q2 q3 hu; obtain ⟨pc, hpc⟩ : ∃ pc, placeB kd = pc := ⟨_, rfl⟩; rw [hpc] at he; unfold placeB at hpc; rw [hpc] at HT; clear hpc; cases pc with
   | false =>
    obtain rfl : e = _ := he; simp only [Bool.false_eq_true, if_false]; go_wp2_with fail
    exact ⟨rfl, ppost_bad (by rw [← HT.out, then_no]) HB.out.f⟩
   | true =>
    obtain rfl : e = _ := he; rw [then_yes] at HT; simp only [if_true]; obtain ⟨b, o, k1, t1, m1, a1, n1, c1, ha, hu, q0, q1, q2, q3⟩ := kid_at HB.out.f.pw.ext HI.out 0 (by simp)
    first | subst ha | cases ha
    first | simp only [Nat.zero_mul, Nat.add_zero] at q0 q1 q2 q3 | simp only [Nat.one_mul] at q0 q1 q2 q3 | skip
    have HIK := Z_ (HEX.out x _ _ _ _ 0 HB.out.f.pw hu (by have h9 := HLEN.out; first | omega | (simp at h9 ⊢; omega)) (by decide) (by decide)); rw [HPp.out] at HIK; have hbc := HB.out.nb.cell; clear hu; go_wp2_with fail
    try clear hbc
    clear q0 q1 q2 q3; refine HIK.out.mono ?_
    rintro e w3 ⟨⟨row3, hF3⟩, he⟩; replace HB := Z_ (HB.out.call hF3).assoc; clear hF3 HIK; obtain ⟨pb, pw⟩ := p; cases pb with
    | false =>
     obtain rfl : e = _ := he; simp only [Bool.false_eq_true, if_false]; go_wp2_with fail
     exact ⟨rfl, ppost_bad (by rw [← HT.out, then_bad]) HB.out.f⟩
    | true =>
     obtain rfl : e = _ := he; rw [then_ok] at HT; simp only [if_true]
     try simp only at hpl
     go_wp2_with fail
     try clear hbc
     refine (say_new HB.out.f.pw [sEq] _ rfl 1 rfl (by decide) (by have h9 := HLEN.out; first | omega | (simp at h9 ⊢; omega))).mono ?_
     rintro e w3 ⟨rfl, row3, hF3⟩; replace HB := Z_ (HB.out.call hF3).assoc; clear hF3; rw [then_say] at HT; obtain ⟨b, o, k1, t1, m1, a1, n1, c1, ha, hu, q0, q1, q2, q3⟩ := kid_at HB.out.f.pw.ext HI.out 1 (by simp); cases ha
     first | simp only [Nat.zero_mul, Nat.add_zero] at q0 q1 q2 q3 | simp only [Nat.one_mul] at q0 q1 q2 q3 | skip
     have HIK := Z_ (HEX.out y _ _ _ _ 0 HB.out.f.pw hu (by have h9 := HLEN.out; first | omega | (simp at h9 ⊢; omega)) (by decide) (by decide)); rw [HPq.out] at HIK; have hbc := HB.out.nb.cell; clear hu; go_wp2_with fail
     try clear hbc
     clear q0 q1 q2 q3; refine HIK.out.mono ?_
     rintro e w3 ⟨⟨row3, hF3⟩, he⟩; replace HB := Z_ (HB.out.call hF3).assoc; clear hF3 HIK; obtain ⟨qb, qw⟩ := q; cases qb with
     | false =>
      obtain rfl : e = _ := he; simp only [Bool.false_eq_true, if_false]; go_wp2_with fail
      exact ⟨rfl, ppost_bad (by rw [← HT.out, then_bad]) HB.out.f⟩
     | true =>
      obtain rfl : e = _ := he; rw [then_ok] at HT; simp only [if_true]
      try simp only at hql
      go_wp2_with fail
      try clear hbc
      refine (say_new HB.out.f.pw [sSemi] _ rfl 1 rfl (by decide) (by have h9 := HLEN.out; first | omega | (simp at h9 ⊢; omega))).mono ?_
      rintro e w3 ⟨rfl, row3, hF3⟩; replace HB := Z_ (HB.out.call hF3).assoc; clear hF3; rw [then_say] at HT; go_wp2_with fail
      go_end0
      exact ppost_ok (by rw [← HT.out, then_nil]) HB.out.f
 rw [if_neg k8] at hT; by_cases k9 : k = 9
 ·
  subst k9; rw [if_pos rfl] at hT; clear k10 k7 k8; have HT := Z_ (show PO.then (true, []) ((mustP (plainB t m N 1 1 0)).then ((mustP (decide (kd = 18))).then ((sayP [sDo]).then ((kidP (ks.map Prod.fst) 0).then ((sayP [sSemi]).then (sayP [])))))) = T by rw [← hT, ← then_one (sayP [sSemi]), ← then_start]); clear hT ; obtain ⟨pb, hpb⟩ : ∃ pb, plainB t m N 1 1 0 = pb := ⟨_, rfl⟩; have HPL := Z_ (fun w => plain_any 9 m t a N cc 1 1 0 w); rw [hpb] at HPL HT; have HPB := Z_ hpb; clear hpb; go_enter Tryz.func265, Tryz.ntmps265
  go_upto_region 1 with (fail)
  try rw [hNb]
  generalize u.alloc (.cells #[.int .i64 9, .string t, .int .i64 m, .slice a N cc] 66) = u0 at *; clear hNb; have hbc := HB.out.nb.cell; go_wp2_with fail
  try clear hbc
  refine (HPL.out _).mono ?_
  rintro e w3 ⟨he, hE3⟩; replace HB := Z_ (HB.out.extend hE3); clear hE3; cases pb with
  | false =>
   obtain rfl : e = _ := he; simp only [Bool.false_eq_true, if_false]; go_wp2_with fail
   exact ⟨rfl, ppost_bad (by rw [← HT.out, then_no]) HB.out.f⟩
  | true =>
   obtain rfl : e = _ := he; rw [then_yes] at HT; simp only [if_true]; have HNN := Z_ (show N = 1 from by have h := plain_n HPB.out; omega); have hNn : l.length = 1 := by have h1 := HN.out; have h2 := HNN.out; omega
   obtain ⟨x, rfl⟩ : ∃ x, l = [x] := by match l, hNn with | [x], _ => exact ⟨x, rfl⟩
   have hkp : kidP (ks.map Prod.fst) 0 = exP 0 x := by rw [← HKS.out]; rfl
   obtain ⟨p, hp⟩ : ∃ p, exP 0 x = p := ⟨_, rfl⟩; have hpl := exP_len x 0; rw [hp] at hpl; rw [hkp, hp] at HT; have HPp := Z_ hp; clear hp hkp; obtain rfl : N = 1 := HNN.out; have hsz : szL [x] = szF x := by simp only [szL]; omega
   clear hNn; have hi0 : (0 : Int) < (1 : Int) := by decide
   obtain ⟨b, o, k1, t1, m1, a1, n1, c1, ha, hu, q0, q1, q2, q3⟩ := kid_at HB.out.f.pw.ext HI.out 0 (by simp)
   first | subst ha | cases ha
   first | simp only [Nat.zero_mul, Nat.add_zero] at q0 q1 q2 q3 | simp only [Nat.one_mul] at q0 q1 q2 q3 | skip
   have hkk : kd = k1 := by rw [← HKD.out]; exact ng_kd hu
   subst hkk; have hbc := HB.out.nb.cell; go_wp2_with fail
   try clear hbc
   refine (must_any (decide (kd = 18)) _).mono ?_
   rintro e w3 ⟨rfl, rfl⟩; cases hpc : decide (kd = 18) with
   | false =>
    rw [hpc] at HT; simp only [Bool.false_eq_true, if_false]; go_wp2_with fail
    exact ⟨rfl, ppost_bad (by rw [← HT.out, then_no]) HB.out.f⟩
   | true =>
    rw [hpc, then_yes] at HT; simp only [if_true]; clear hpc q0 q1 q2 q3 hu; have hbc := HB.out.nb.cell; go_wp2_with fail
    try clear hbc
    refine (say_new HB.out.f.pw [sDo] _ rfl 1 rfl (by decide) (by have h9 := HLEN.out; first | omega | (simp at h9 ⊢; omega))).mono ?_
    rintro e w3 ⟨rfl, row3, hF3⟩; replace HB := Z_ (HB.out.call hF3).assoc; clear hF3; rw [then_say] at HT; obtain ⟨b, o, k1, t1, m1, a1, n1, c1, ha, hu, q0, q1, q2, q3⟩ := kid_at HB.out.f.pw.ext HI.out 0 (by simp)
    first | subst ha | cases ha
    first | simp only [Nat.zero_mul, Nat.add_zero] at q0 q1 q2 q3 | simp only [Nat.one_mul] at q0 q1 q2 q3 | skip
    have HIK := Z_ (HEX.out x _ _ _ _ 0 HB.out.f.pw hu (by have h9 := HLEN.out; first | omega | (simp at h9 ⊢; omega)) (by decide) (by decide)); rw [HPp.out] at HIK; have hbc := HB.out.nb.cell; clear hu; go_wp2_with fail
    try clear hbc
    clear q0 q1 q2 q3; refine HIK.out.mono ?_
    rintro e w3 ⟨⟨row3, hF3⟩, he⟩; replace HB := Z_ (HB.out.call hF3).assoc; clear hF3 HIK; obtain ⟨pb, pw⟩ := p; cases pb with
    | false =>
     obtain rfl : e = _ := he; simp only [Bool.false_eq_true, if_false]; go_wp2_with fail
     exact ⟨rfl, ppost_bad (by rw [← HT.out, then_bad]) HB.out.f⟩
    | true =>
     obtain rfl : e = _ := he; rw [then_ok] at HT; simp only [if_true]
     try simp only at hpl
     go_wp2_with fail
     try clear hbc
     refine (say_new HB.out.f.pw [sSemi] _ rfl 1 rfl (by decide) (by have h9 := HLEN.out; first | omega | (simp at h9 ⊢; omega))).mono ?_
     rintro e w3 ⟨rfl, row3, hF3⟩; replace HB := Z_ (HB.out.call hF3).assoc; clear hF3; rw [then_say] at HT; go_wp2_with fail
     go_end0
     exact ppost_ok (by rw [← HT.out, then_nil]) HB.out.f
 rw [if_neg k9] at hT; by_cases k12 : k = 12 ∨ k = 13
 ·rcases k12 with rfl | rfl
  ·
   rw [if_pos (by decide)] at hT; clear k10 k7 k8 k9; have HT := Z_ (show PO.then (true, []) ((mustP (plainB t m N 1 1 1)).then ((mustP true).then ((sayP [sOut]).then ((sayP [labW (decide (m = 1))]).then ((kidP (ks.map Prod.fst) 0).then ((sayP [sSemi]).then (sayP []))))))) = T by rw [← hT, ← then_one (sayP [sSemi]), ← then_start]; rfl); clear hT; obtain ⟨pb, hpb⟩ : ∃ pb, plainB t m N 1 1 1 = pb := ⟨_, rfl⟩; have HPL := Z_ (fun w => plain_any 12 m t a N cc 1 1 1 w); rw [hpb] at HPL HT; have HPB := Z_ hpb; clear hpb; go_enter Tryz.func265, Tryz.ntmps265
   go_upto_region 1 with (fail)
   try rw [hNb]
   generalize u.alloc (.cells #[.int .i64 12, .string t, .int .i64 m, .slice a N cc] 66) = u0 at *; clear hNb; have hbc := HB.out.nb.cell; go_wp2_with fail
   try clear hbc
   refine (HPL.out _).mono ?_
   rintro e w3 ⟨he, hE3⟩; replace HB := Z_ (HB.out.extend hE3); clear hE3; cases pb with
   | false =>
    obtain rfl : e = _ := he; simp only [Bool.false_eq_true, if_false]; go_wp2_with fail
    exact ⟨rfl, ppost_bad (by rw [← HT.out, then_no]) HB.out.f⟩
   | true =>
    obtain rfl : e = _ := he; rw [then_yes] at HT; simp only [if_true]; have HNN := Z_ (show N = 1 from by have h := plain_n HPB.out; omega); rw [then_yes] at HT; have hNn : l.length = 1 := by have h1 := HN.out; have h2 := HNN.out; omega
    obtain ⟨x, rfl⟩ : ∃ x, l = [x] := by match l, hNn with | [x], _ => exact ⟨x, rfl⟩
    have hkp : kidP (ks.map Prod.fst) 0 = exP 0 x := by rw [← HKS.out]; rfl
    obtain ⟨p, hp⟩ : ∃ p, exP 0 x = p := ⟨_, rfl⟩; have hpl := exP_len x 0; rw [hp] at hpl; rw [hkp, hp] at HT; have HPp := Z_ hp; clear hp hkp; obtain rfl : N = 1 := HNN.out; have hsz : szL [x] = szF x := by simp only [szL]; omega
    clear hNn; have hi0 : (0 : Int) < (1 : Int) := by decide
    have hbc := HB.out.nb.cell; go_wp2_with fail
    try clear hbc
    refine (say_new HB.out.f.pw [sOut] _ rfl 1 rfl (by decide) (by have h9 := HLEN.out; first | omega | (simp at h9 ⊢; omega))).mono ?_
    rintro e w3 ⟨rfl, row3, hF3⟩; replace HB := Z_ (HB.out.call hF3).assoc; clear hF3; rw [then_say] at HT; have hbc := HB.out.nb.cell; go_wp2_with fail
    try clear hbc
    refine (label_any HB.out.f.pw (decide (m = 1)) (by have h9 := HLEN.out; first | omega | (simp at h9 ⊢; omega))).mono ?_
    rintro e w3 ⟨rfl, row3, hF3⟩; replace HB := Z_ (HB.out.call hF3).assoc; clear hF3; rw [then_say] at HT; obtain ⟨b, o, k1, t1, m1, a1, n1, c1, ha, hu, q0, q1, q2, q3⟩ := kid_at HB.out.f.pw.ext HI.out 0 (by simp)
    first | subst ha | cases ha
    first | simp only [Nat.zero_mul, Nat.add_zero] at q0 q1 q2 q3 | simp only [Nat.one_mul] at q0 q1 q2 q3 | skip
    have HIK := Z_ (HEX.out x _ _ _ _ 0 HB.out.f.pw hu (by have h9 := HLEN.out; first | omega | (simp at h9 ⊢; omega)) (by decide) (by decide)); rw [HPp.out] at HIK; have hbc := HB.out.nb.cell; clear hu; go_wp2_with fail
    try clear hbc
    clear q0 q1 q2 q3; refine HIK.out.mono ?_
    rintro e w3 ⟨⟨row3, hF3⟩, he⟩; replace HB := Z_ (HB.out.call hF3).assoc; clear hF3 HIK; obtain ⟨pb, pw⟩ := p; cases pb with
    | false =>
     obtain rfl : e = _ := he; simp only [Bool.false_eq_true, if_false]; go_wp2_with fail
     exact ⟨rfl, ppost_bad (by rw [← HT.out, then_bad]) HB.out.f⟩
    | true =>
     obtain rfl : e = _ := he; rw [then_ok] at HT; simp only [if_true]
     try simp only at hpl
     go_wp2_with fail
     try clear hbc
     refine (say_new HB.out.f.pw [sSemi] _ rfl 1 rfl (by decide) (by have h9 := HLEN.out; first | omega | (simp at h9 ⊢; omega))).mono ?_
     rintro e w3 ⟨rfl, row3, hF3⟩; replace HB := Z_ (HB.out.call hF3).assoc; clear hF3; rw [then_say] at HT; go_wp2_with fail
     go_end0
     exact ppost_ok (by rw [← HT.out, then_nil]) HB.out.f
  ·
   rw [if_pos (by decide)] at hT; clear k10 k7 k8 k9; have HT := Z_ (show PO.then (true, []) ((mustP (plainB t m N 1 1 1)).then ((mustP (decide (kd = 16) || decide (kd = 17))).then ((sayP [sIn]).then ((sayP [labW (decide (m = 1))]).then ((kidP (ks.map Prod.fst) 0).then ((sayP [sSemi]).then (sayP []))))))) = T by rw [← hT, ← then_one (sayP [sSemi]), ← then_start]; rfl); clear hT; obtain ⟨pb, hpb⟩ : ∃ pb, plainB t m N 1 1 1 = pb := ⟨_, rfl⟩; have HPL := Z_ (fun w => plain_any 13 m t a N cc 1 1 1 w); rw [hpb] at HPL HT; have HPB := Z_ hpb; clear hpb; go_enter Tryz.func265, Tryz.ntmps265
   go_upto_region 1 with (fail)
   try rw [hNb]
   generalize u.alloc (.cells #[.int .i64 13, .string t, .int .i64 m, .slice a N cc] 66) = u0 at *; clear hNb; have hbc := HB.out.nb.cell; go_wp2_with fail
   try clear hbc
   refine (HPL.out _).mono ?_
   rintro e w3 ⟨he, hE3⟩; replace HB := Z_ (HB.out.extend hE3); clear hE3; cases pb with
   | false =>
    obtain rfl : e = _ := he; simp only [Bool.false_eq_true, if_false]; go_wp2_with fail
    exact ⟨rfl, ppost_bad (by rw [← HT.out, then_no]) HB.out.f⟩
   | true =>
    obtain rfl : e = _ := he; rw [then_yes] at HT; simp only [if_true]; have HNN := Z_ (show N = 1 from by have h := plain_n HPB.out; omega); have hNn : l.length = 1 := by have h1 := HN.out; have h2 := HNN.out; omega
    obtain ⟨x, rfl⟩ : ∃ x, l = [x] := by match l, hNn with | [x], _ => exact ⟨x, rfl⟩
    have hkp : kidP (ks.map Prod.fst) 0 = exP 0 x := by rw [← HKS.out]; rfl
    obtain ⟨p, hp⟩ : ∃ p, exP 0 x = p := ⟨_, rfl⟩; have hpl := exP_len x 0; rw [hp] at hpl; rw [hkp, hp] at HT; have HPp := Z_ hp; clear hp hkp; obtain rfl : N = 1 := HNN.out; have hsz : szL [x] = szF x := by simp only [szL]; omega
    clear hNn; have hi0 : (0 : Int) < (1 : Int) := by decide
    obtain ⟨b, o, k1, t1, m1, a1, n1, c1, ha, hu, q0, q1, q2, q3⟩ := kid_at HB.out.f.pw.ext HI.out 0 (by simp)
    first | subst ha | cases ha
    first | simp only [Nat.zero_mul, Nat.add_zero] at q0 q1 q2 q3 | simp only [Nat.one_mul] at q0 q1 q2 q3 | skip
    have HPQ := Z_ (fun w => place_any k1 m1 t1 a1 n1 c1 w); have hkk : kd = k1 := by rw [← HKD.out]; exact ng_kd hu
    subst hkk; have hbc := HB.out.nb.cell; go_wp2_with fail
    try clear hbc
    refine (HPQ.out _).mono ?_
    rintro e w3 ⟨he, hE3⟩; replace HB := Z_ (HB.out.extend hE3); clear hE3 HPQ q0 q1 q2 q3 hu; obtain ⟨pc, hpc⟩ : ∃ pc, placeB kd = pc := ⟨_, rfl⟩; rw [hpc] at he; unfold placeB at hpc; rw [hpc] at HT; clear hpc; cases pc with
    | false =>
     obtain rfl : e = _ := he; simp only [Bool.false_eq_true, if_false]; go_wp2_with fail
     exact ⟨rfl, ppost_bad (by rw [← HT.out, then_no]) HB.out.f⟩
    | true =>
     obtain rfl : e = _ := he; rw [then_yes] at HT; simp only [if_true]; have hbc := HB.out.nb.cell; go_wp2_with fail
     try clear hbc
     refine (say_new HB.out.f.pw [sIn] _ rfl 1 rfl (by decide) (by have h9 := HLEN.out; first | omega | (simp at h9 ⊢; omega))).mono ?_
     rintro e w3 ⟨rfl, row3, hF3⟩; replace HB := Z_ (HB.out.call hF3).assoc; clear hF3; rw [then_say] at HT; have hbc := HB.out.nb.cell; go_wp2_with fail
     try clear hbc
     refine (label_any HB.out.f.pw (decide (m = 1)) (by have h9 := HLEN.out; first | omega | (simp at h9 ⊢; omega))).mono ?_
     rintro e w3 ⟨rfl, row3, hF3⟩; replace HB := Z_ (HB.out.call hF3).assoc; clear hF3; rw [then_say] at HT; obtain ⟨b, o, k1, t1, m1, a1, n1, c1, ha, hu, q0, q1, q2, q3⟩ := kid_at HB.out.f.pw.ext HI.out 0 (by simp)
     first | subst ha | cases ha
     first | simp only [Nat.zero_mul, Nat.add_zero] at q0 q1 q2 q3 | simp only [Nat.one_mul] at q0 q1 q2 q3 | skip
     have HIK := Z_ (HEX.out x _ _ _ _ 0 HB.out.f.pw hu (by have h9 := HLEN.out; first | omega | (simp at h9 ⊢; omega)) (by decide) (by decide)); rw [HPp.out] at HIK; have hbc := HB.out.nb.cell; clear hu; go_wp2_with fail
     try clear hbc
     clear q0 q1 q2 q3; refine HIK.out.mono ?_
     rintro e w3 ⟨⟨row3, hF3⟩, he⟩; replace HB := Z_ (HB.out.call hF3).assoc; clear hF3 HIK; obtain ⟨pb, pw⟩ := p; cases pb with
     | false =>
      obtain rfl : e = _ := he; simp only [Bool.false_eq_true, if_false]; go_wp2_with fail
      exact ⟨rfl, ppost_bad (by rw [← HT.out, then_bad]) HB.out.f⟩
     | true =>
      obtain rfl : e = _ := he; rw [then_ok] at HT; simp only [if_true]
      try simp only at hpl
      go_wp2_with fail
      try clear hbc
      refine (say_new HB.out.f.pw [sSemi] _ rfl 1 rfl (by decide) (by have h9 := HLEN.out; first | omega | (simp at h9 ⊢; omega))).mono ?_
      rintro e w3 ⟨rfl, row3, hF3⟩; replace HB := Z_ (HB.out.call hF3).assoc; clear hF3; rw [then_say] at HT; go_wp2_with fail
      go_end0
      exact ppost_ok (by rw [← HT.out, then_nil]) HB.out.f
 rw [if_neg k12] at hT; have HT := Z_ (show PO.then (true, []) ((mustP (decide (k = 14))).then ((mustP (plainB t m N 1 1 0)).then ((sayP [sReturn]).then ((kidP (ks.map Prod.fst) 0).then ((sayP [sSemi]).then (sayP [])))))) = T by rw [← hT, ← then_one (sayP [sSemi]), ← then_start]); clear hT ; have b10 : (k == 10) = false := beq_eq_false_iff_ne.2 (fun e => k10 (.inl e)); have b11 : (k == 11) = false := beq_eq_false_iff_ne.2 (fun e => k10 (.inr e)); have b7 : (k == 7) = false := beq_eq_false_iff_ne.2 k7; have b8 : (k == 8) = false := beq_eq_false_iff_ne.2 k8; have b9 : (k == 9) = false := beq_eq_false_iff_ne.2 k9; have b12 : (k == 12) = false := beq_eq_false_iff_ne.2 (fun e => k12 (.inl e)); have b13 : (k == 13) = false := beq_eq_false_iff_ne.2 (fun e => k12 (.inr e)); clear k10 k7 k8 k9 k12; obtain ⟨pb, hpb⟩ : ∃ pb, plainB t m N 1 1 0 = pb := ⟨_, rfl⟩; have HPL := Z_ (fun w => plain_any k m t a N cc 1 1 0 w)
 rw [hpb] at HPL HT; have HPB := Z_ hpb; clear hpb; go_enter Tryz.func265, Tryz.ntmps265
 go_upto_region 1 with (fail)
 try rw [hNb]
 generalize u.alloc (.cells #[.int .i64 k, .string t, .int .i64 m, .slice a N cc] 66) = u0 at *; clear hNb; have hbc := HB.out.nb.cell; go_wp2_with fail
 try clear hbc
 refine (must_any (decide (k = 14)) _).mono ?_
 rintro e w3 ⟨rfl, rfl⟩; cases hpc : decide (k = 14) with
 | false =>
  rw [hpc] at HT; simp only [Bool.false_eq_true, if_false]; go_wp2_with fail
  exact ⟨rfl, ppost_bad (by rw [← HT.out, then_no]) HB.out.f⟩
 | true =>
  rw [hpc, then_yes] at HT; simp only [if_true]; clear hpc; have hbc := HB.out.nb.cell; go_wp2_with fail
  try clear hbc
  refine (HPL.out _).mono ?_
  rintro e w3 ⟨he, hE3⟩; replace HB := Z_ (HB.out.extend hE3); clear hE3; cases pb with
  | false =>
   obtain rfl : e = _ := he; simp only [Bool.false_eq_true, if_false]; go_wp2_with fail
   exact ⟨rfl, ppost_bad (by rw [← HT.out, then_no]) HB.out.f⟩
  | true =>
   obtain rfl : e = _ := he; rw [then_yes] at HT; simp only [if_true]; have HNN := Z_ (show N = 1 from by have h := plain_n HPB.out; omega); have hbc := HB.out.nb.cell; go_wp2_with fail
   try clear hbc
   refine (say_new HB.out.f.pw [sReturn] _ rfl 1 rfl (by decide) (by have h9 := HLEN.out; first | omega | (simp at h9 ⊢; omega))).mono ?_
   rintro e w3 ⟨rfl, row3, hF3⟩; replace HB := Z_ (HB.out.call hF3).assoc; clear hF3; rw [then_say] at HT; have hNn : l.length = 1 := by have h1 := HN.out; have h2 := HNN.out; omega
   obtain ⟨x, rfl⟩ : ∃ x, l = [x] := by match l, hNn with | [x], _ => exact ⟨x, rfl⟩
   have hkp : kidP (ks.map Prod.fst) 0 = exP 0 x := by rw [← HKS.out]; rfl
   obtain ⟨p, hp⟩ : ∃ p, exP 0 x = p := ⟨_, rfl⟩; have hpl := exP_len x 0; rw [hp] at hpl; rw [hkp, hp] at HT; have HPp := Z_ hp; clear hp hkp; obtain rfl : N = 1 := HNN.out; have hsz : szL [x] = szF x := by simp only [szL]; omega
   clear hNn; have hi0 : (0 : Int) < (1 : Int) := by decide
   obtain ⟨b, o, k1, t1, m1, a1, n1, c1, ha, hu, q0, q1, q2, q3⟩ := kid_at HB.out.f.pw.ext HI.out 0 (by simp)
   first | subst ha | cases ha
   first | simp only [Nat.zero_mul, Nat.add_zero] at q0 q1 q2 q3 | simp only [Nat.one_mul] at q0 q1 q2 q3 | skip
   have HIK := Z_ (HEX.out x _ _ _ _ 0 HB.out.f.pw hu (by have h9 := HLEN.out; first | omega | (simp at h9 ⊢; omega)) (by decide) (by decide)); rw [HPp.out] at HIK; have hbc := HB.out.nb.cell; clear hu; go_wp2_with fail
   try clear hbc
   clear q0 q1 q2 q3; refine HIK.out.mono ?_
   rintro e w3 ⟨⟨row3, hF3⟩, he⟩; replace HB := Z_ (HB.out.call hF3).assoc; clear hF3 HIK; obtain ⟨pb, pw⟩ := p; cases pb with
   | false =>
    obtain rfl : e = _ := he; simp only [Bool.false_eq_true, if_false]; go_wp2_with fail
    exact ⟨rfl, ppost_bad (by rw [← HT.out, then_bad]) HB.out.f⟩
   | true =>
    obtain rfl : e = _ := he; rw [then_ok] at HT; simp only [if_true]
    try simp only at hpl
    go_wp2_with fail
    try clear hbc
    refine (say_new HB.out.f.pw [sSemi] _ rfl 1 rfl (by decide) (by have h9 := HLEN.out; first | omega | (simp at h9 ⊢; omega))).mono ?_
    rintro e w3 ⟨rfl, row3, hF3⟩; replace HB := Z_ (HB.out.call hF3).assoc; clear hF3; rw [then_say] at HT; go_wp2_with fail
    go_end0
    exact ppost_ok (by rw [← HT.out, then_nil]) HB.out.f
set_option maxRecDepth 100000 in
set_option maxHeartbeats 16000000 in
theorem block_any {W : World} {S : Nat} (k : Int) (t : ByteArray) (m : Int) (l : List Nd) (ih : ∀ x ∈ l, StC W S x) : BlC W S (.mk k t m l) := by
 intro v u row acc h hnd hm; rw [ngAt_mk] at hnd; obtain ⟨a, cc, rfl, hc1, hc2, ⟨hts, hmi⟩, hrow⟩ := hnd; obtain ⟨N, hN⟩ : ∃ N, l.length = N := ⟨_, rfl⟩; rw [hN] at hc1 ⊢; have hNm : N ≤ 9223372036854775807 := by unfold maxLen at hc2; omega
 have HN := Z_ hN; have HI := Z_ hrow; have HIH := Z_ ih; have HLEN := Z_ (show acc.length + 12 * (1 + szL l) ≤ 1000000 from by simp only [szF] at hm; omega); have HB := Z_ (PB.made h #[.int .i64 k, .string t, .int .i64 m, .slice a N cc]).nil; obtain ⟨Nb, hNb⟩ : ∃ Nb, u.heap.size = Nb := ⟨_, rfl⟩; rw [hNb] at HB; obtain ⟨ks, hks⟩ : ∃ ks, stL l = ks := ⟨_, rfl⟩; have hkn : ks.length = N := by rw [← hks, stL_len, hN]
 rw [blP, hks]; have HKS := Z_ hks; obtain ⟨T, hT⟩ : ∃ T, finB k t m ks = T := ⟨_, rfl⟩; rw [hT]; unfold finB at hT; rw [hkn] at hT; clear hrow ih hm hts hmi h hN hks hkn; have HT := Z_ (show PO.then (true, []) ((mustP (decide (k = 6))).then ((mustP (plainB t m N 0 (-1) 0)).then ((sayP [sCurl]).then ((seqP ks).then ((sayP [sLruc]).then (sayP [])))))) = T by rw [← hT, ← then_one (sayP [sLruc]), ← then_start]); clear hT; obtain ⟨pb, hpb⟩ : ∃ pb, plainB t m N 0 (-1) 0 = pb := ⟨_, rfl⟩; have HPL := Z_ (fun w => plain_any k m t a N cc 0 (-1) 0 w); rw [hpb] at HPL HT; have HPB := Z_ hpb; clear hpb; go_enter Tryz.func232, Tryz.ntmps232
 go_upto_region 1 with (fail)
 try rw [hNb]
 generalize u.alloc (.cells #[.int .i64 k, .string t, .int .i64 m, .slice a N cc] 66) = u0 at *; clear hNb; have hbc := HB.out.nb.cell; go_wp2_with fail
 try clear hbc
 refine (must_any (decide (k = 6)) _).mono ?_
 rintro e w3 ⟨rfl, rfl⟩; cases hpc : decide (k = 6) with
 | false =>
  rw [hpc] at HT; simp only [Bool.false_eq_true, if_false]; go_wp2_with fail
  exact ⟨rfl, ppost_bad (by rw [← HT.out, then_no]) HB.out.f⟩
 | true =>
  rw [hpc, then_yes] at HT; simp only [if_true]; clear hpc; have hbc := HB.out.nb.cell; go_wp2_with fail
  try clear hbc
  refine (HPL.out _).mono ?_
  rintro e w3 ⟨he, hE3⟩; replace HB := Z_ (HB.out.extend hE3); clear hE3; cases pb with
  | false =>
   obtain rfl : e = _ := he; simp only [Bool.false_eq_true, if_false]; go_wp2_with fail
   exact ⟨rfl, ppost_bad (by rw [← HT.out, then_no]) HB.out.f⟩
  | true =>
   obtain rfl : e = _ := he; rw [then_yes] at HT; simp only [if_true]; have hbc := HB.out.nb.cell; go_wp2_with fail
   try clear hbc
   refine (say_new HB.out.f.pw [sCurl] _ rfl 1 rfl (by decide) (by have h9 := HLEN.out; first | omega | (simp at h9 ⊢; omega))).mono ?_
   rintro e w3 ⟨rfl, row3, hF3⟩; replace HB := Z_ (HB.out.call hF3).assoc; clear hF3; rw [then_say] at HT; have hbc := HB.out.nb.cell; go_upto_region 4 with (fail)
   go_wp2_with fail
   clear hbc; have HLN := Z_ (show acc.length + ([] ++ [sCurl]).length + 12 * szL l + 2 ≤ 1000000 from by have h9 := HLEN.out; simp; omega); generalize [] ++ [sCurl] = ws0 at *; go_loopw [18] (fun i wr => ∃ (j : Nat) (ws : List ByteArray) (r : Value), j ≤ N ∧ i = .int .i64 (j : Nat) ∧ Hid (PO.then (true, ws) ((seqP (ks.drop j)).then ((sayP [sLruc]).then (sayP []))) = T) ∧ Hid (PB W u wr S Nb row r (acc ++ ws) #[.int .i64 k, .string t, .int .i64 m, .slice a N cc]) ∧ Hid (acc.length + ws.length + 12 * szL (l.drop j) + 2 ≤ 1000000)) (fun i _ => N - (intOf i).toNat)
   case atStart => exact ⟨0, ws0, _, Nat.zero_le _, rfl, by rw [List.drop_zero]; exact HT, HB, by rw [List.drop_zero]; exact HLN⟩
   clear HT HB HLN
   case round =>
    obtain ⟨j, ws, r, hj, rfl, HT, HB, HLN⟩ := hrel; by_cases hlt : j < N
    ·have hji : (j : Int) < (N : Int) := by omega
     have hjd : decide ((j : Int) < (N : Int)) = true := by simpa using hji
     have hjl : j < l.length := by rw [HN.out]; exact hlt
     obtain ⟨b, o, k1, t1, m1, a1, n1, c1, ha, hu, q0, q1, q2, q3⟩ := kid_at HB.out.f.pw.ext HI.out j hjl; subst ha; have hdr := stL_drop l j hjl; rw [HKS.out] at hdr; have hih := HIH.out l[j] (List.getElem_mem hjl); have hpl := (stP_len l[j]).1; have hln := HLN.out; rw [List.drop_eq_getElem_cons hjl] at hln; simp only [szL] at hln; generalize l[j] = x at *; obtain ⟨p, hp⟩ : ∃ p, stP x = p := ⟨_, rfl⟩; rw [hp] at hdr hpl; have HPK := Z_ hp; rw [hdr, seqP] at HT; simp only [then_assoc] at HT; have HLN2 := Z_ hln; obtain ⟨K, hK⟩ : ∃ K, wr.heap.size = K := ⟨_, rfl⟩; have HKB := Z_ (show Blk (wr.alloc (.cells #[.int .i64 k1, .string t1, .int .i64 m1, .slice a1 n1 c1] 66)) K #[.int .i64 k1, .string t1, .int .i64 m1, .slice a1 n1 c1] 66 by rw [← hK]; exact Blk.made wr _ _); replace HB := Z_ (HB.out.extend ((Chg.refl (fun _ => False) wr).alloc (.cells #[.int .i64 k1, .string t1, .int .i64 m1, .slice a1 n1 c1] 66)))
     clear hp hdr hln HLN; go_upto_region 7 with (fail)
     try rw [hK]
     generalize wr.alloc (.cells #[.int .i64 k1, .string t1, .int .i64 m1, .slice a1 n1 c1] 66) = u5 at *; clear q0 q1 q2 q3 hK; have HIK := Z_ (hih _ u5 r (acc ++ ws) HB.out.f.pw hu (by have := HLN2.out; rw [List.length_append]; omega)); rw [HPK.out] at HIK; have hkc := HKB.out.cell; go_wp2_with fail
     clear hkc hu hih; refine HIK.out.mono ?_
     rintro e w3 ⟨⟨row3, hF3⟩, he⟩; replace HB := Z_ (HB.out.call hF3).assoc; clear hF3 HIK; obtain ⟨pb, pw⟩ := p; cases pb with
     | false =>
      obtain rfl : e = _ := he; simp only [Bool.false_eq_true, if_false]; go_wp2_with fail
      exact ⟨rfl, ppost_bad (by rw [← HT.out, then_bad]) HB.out.f⟩
     | true =>
      obtain rfl : e = _ := he; rw [then_ok] at HT; simp only [if_true]
      try simp only at hpl
      have HLN3 := Z_ (show acc.length + (ws ++ pw).length + 12 * szL (l.drop (j + 1)) + 2 ≤ 1000000 from by have h9 := HLN2.out; rw [List.length_append]; omega); go_wp2_with fail
      go_roundw
      case rel => exact ⟨j + 1, ws ++ pw, _, hlt, by go_num, HT, HB, HLN3⟩
      case measure => simp [intOf]; omega
    ·obtain rfl : j = N := by omega
     have hjd : decide ((j : Int) < (j : Int)) = false := by simp
     have hdn : ks.drop j = [] := by rw [← HKS.out]; exact List.drop_eq_nil_of_le (by rw [stL_len, HN.out]; exact Nat.le_refl _)
     rw [hdn, seqP, then_say] at HT; replace HB := Z_ HB.out.nil; rw [List.append_assoc] at HB; have h9 := HLN.out; go_wp2_with fail
     refine (say_new HB.out.f.pw [sLruc] _ rfl 1 rfl (by decide) (by simp; omega)).mono ?_
     rintro e w3 ⟨rfl, row3, hF3⟩; replace HB := Z_ (HB.out.call hF3).assoc; clear hF3; rw [then_say] at HT; go_wp2_with fail
     go_end0
     exact ppost_ok (by rw [← HT.out, then_nil]) HB.out.f
theorem sb_any {W : World} {S : Nat} (hv : ErrVar W) (hmv : MaxVar W) (htab : Lib.TabIs Tryz.prog W "internal/strconv.uint64pow10" .u64 Lib.pow10Tab) : ∀ x, StC W S x ∧ BlC W S x := by
 refine nd_ind fun k t m l ih => ?_
 exact ⟨stat_any hv hmv htab k t m l fun x hx => (ih x hx).2, block_any k t m l fun x hx => (ih x hx).1⟩
end prt
end Go.Proofs.YtpcihajmcejliabGreatDoor
