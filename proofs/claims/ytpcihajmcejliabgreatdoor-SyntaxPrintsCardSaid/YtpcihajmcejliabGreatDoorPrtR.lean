/- The walks of the printer's variable, proc, module. The printer's recover. -/
import Derived.Recover
import Derived.Test.YtpcihajmcejliabGreatDoorPrtB
namespace Go.Proofs.YtpcihajmcejliabGreatDoor
open Go.RowKit
namespace prt
open synw
theorem bits_one {m : Int} (h0 : 0 ≤ m) (h1 : m ≤ 11) : bits .and .i64 m 1 = m % 2 := by
 have h : m = 0 ∨ m = 1 ∨ m = 2 ∨ m = 3 ∨ m = 4 ∨ m = 5 ∨ m = 6 ∨ m = 7 ∨ m = 8 ∨ m = 9 ∨ m = 10 ∨ m = 11 := by omega
 rcases h with rfl | rfl | rfl | rfl | rfl | rfl | rfl | rfl | rfl | rfl | rfl | rfl <;> rfl
theorem odd_bit {m : Int} (h0 : 0 ≤ m) (h1 : m ≤ 11) : (bits .and .i64 m 1 != 0) = decide (m % 2 = 1) := by
 rw [bits_one h0 h1]; by_cases h : m % 2 = 1
 ·rw [h]; rfl
 ·rw [show m % 2 = 0 by omega]; rfl
theorem named_m {t : ByteArray} {m : Int} {n : Nat} {a b c : Int} (h : namedB t m n a b c = true) : 0 ≤ m ∧ m ≤ c ∧ a ≤ (n : Int) ∧ (b < 0 ∨ (n : Int) ≤ b) := by
 unfold namedB kidsB at h; simp only [Bool.and_eq_true, Bool.or_eq_true, decide_eq_true_eq] at h; exact ⟨h.2.1.1.1, h.2.1.1.2, h.2.1.2, h.2.2⟩
def roomP (x : Nd) : PO := (mustP (decide (x.kd = 15))).then ((sayP [sBra]).then ((exP 0 x).then (sayP [sKet])))
theorem pub_len (m : Int) : (pubW m).length ≤ 1 := by unfold pubW; split <;> simp
def VaC (W : World) (S : Nat) (x : Nd) : Prop := ∀ (v : Value) (u : World) (row : Value) (acc : List ByteArray), PW W u S row acc → NgAt W x v → acc.length + 12 * szF x ≤ 1000000 →
 Calls Tryz.prog 168 #[.pointer (some ⟨S, 0, none⟩), v] u (PPost W u S row acc (varP x))
set_option maxRecDepth 100000 in
set_option maxHeartbeats 16000000 in
theorem var_any {W : World} {S : Nat} (hv : ErrVar W) (hmv : MaxVar W) (htab : Lib.TabIs Tryz.prog W "internal/strconv.uint64pow10" .u64 Lib.pow10Tab) (k : Int) (t : ByteArray) (m : Int) (l : List Nd) : VaC W S (.mk k t m l) := by
 intro v u row acc h hnd hm; rw [ngAt_mk] at hnd; obtain ⟨a, cc, rfl, hc1, hc2, ⟨hts, hmi⟩, hrow⟩ := hnd; obtain ⟨N, hN⟩ : ∃ N, l.length = N := ⟨_, rfl⟩; rw [hN] at hc1 ⊢; have hNm : N ≤ 9223372036854775807 := by unfold maxLen at hc2; omega
 have HN := Z_ hN; have HI := Z_ hrow; have HEX := Z_ (expr_any (S := S) hv hmv htab); have HSB := Z_ (sb_any (S := S) hv hmv htab); have HV := Z_ hv; have HMV := Z_ hmv; have HLEN := Z_ (show acc.length + 12 * (1 + szL l) ≤ 1000000 from by simp only [szF] at hm; omega); have HTS := Z_ hts; have HB := Z_ (PB.made h #[.int .i64 k, .string t, .int .i64 m, .slice a N cc]).nil; obtain ⟨Nb, hNb⟩ : ∃ Nb, u.heap.size = Nb := ⟨_, rfl⟩; rw [hNb] at HB; obtain ⟨ks, hks⟩ : ∃ ks, l.map roomP = ks := ⟨_, rfl⟩; have HKS := Z_ hks; obtain ⟨T, hT⟩ : ∃ T, varP (.mk k t m l) = T := ⟨_, rfl⟩; rw [hT]; obtain ⟨lb, hlb⟩ : ∃ lb, (bits .and .i64 m 1 != 0) = lb := ⟨_, rfl⟩; have HLB := Z_ hlb; have HT := Z_ (show PO.then (true, []) ((mustP (namedB t m N 0 1 3)).then ((sayP (pubW m)).then ((sayP [labW (decide (m % 2 = 1))]).then ((sayP [t]).then ((seqP ks).then ((sayP [sSemi]).then (sayP []))))))) = T by rw [← hT, ← hks, ← hN, ← then_one (sayP [sSemi]), ← then_start]; rfl)
 clear hT hrow hv hmv htab hm hts hmi h hN hks; obtain ⟨pb, hpb⟩ : ∃ pb, namedB t m N 0 1 3 = pb := ⟨_, rfl⟩; have HPL := Z_ (fun w (hE : Ext W w) => named_any k m t a N cc 0 1 3 w HTS.out (HV.out.ext hE) (HMV.out.ext hE)); rw [hpb] at HPL HT; have HPB := Z_ hpb; clear hpb; go_enter Tryz.func168, Tryz.ntmps168
 go_upto_region 1 with (fail)
 try rw [hNb]
 generalize u.alloc (.cells #[.int .i64 k, .string t, .int .i64 m, .slice a N cc] 66) = u0 at *; clear hNb; have hbc := HB.out.nb.cell; go_wp2_with fail
 try clear hbc
 refine (HPL.out _ HB.out.f.pw.ext).mono ?_
 rintro e w3 ⟨he, hE3⟩; replace HB := Z_ (HB.out.extend hE3); clear hE3; cases pb with
 | false =>
  obtain rfl : e = _ := he; simp only [Bool.false_eq_true, if_false]; go_wp2_with fail
  exact ⟨rfl, ppost_bad (by rw [← HT.out, then_no]) HB.out.f⟩
 | true =>
  obtain rfl : e = _ := he; rw [then_yes] at HT; simp only [if_true]; obtain ⟨hm0, hm3, -⟩ := named_m HPB.out; have HMM := Z_ (show 0 ≤ m ∧ m ≤ 11 from by omega); clear hm0 hm3; have HO := Z_ (show decide (m % 2 = 1) = lb from by rw [← HLB.out, odd_bit HMM.out.1 HMM.out.2]); rw [HO.out] at HT; have hpl := pub_len m; generalize hpw : pubW m = pw at *; have HPU := Z_ (fun (u : World) (row : Value) (acc : List ByteArray) (h : PW W u S row acc) hm => pub_any h k m t a N cc HMM.out.1 HMM.out.2 hm); rw [hpw] at HPU; clear hpw; have hbc := HB.out.nb.cell; go_wp2_with fail
  try clear hbc
  refine (HPU.out _ _ _ HB.out.f.pw (by have h9 := HLEN.out; first | omega | (simp at h9 ⊢; omega))).mono ?_
  rintro e w3 ⟨rfl, row3, hF3⟩; replace HB := Z_ (HB.out.call hF3).assoc; clear hF3 HPU; rw [then_say] at HT; have hbc := HB.out.nb.cell; go_wp2_with fail
  try clear hbc
  try rw [hlb]
  refine (label_any HB.out.f.pw lb (by have h9 := HLEN.out; first | omega | (simp at h9 ⊢; omega))).mono ?_
  rintro e w3 ⟨rfl, row3, hF3⟩; replace HB := Z_ (HB.out.call hF3).assoc; clear hF3; rw [then_say] at HT; have hbc := HB.out.nb.cell; go_wp2_with fail
  try clear hbc
  refine (say_new HB.out.f.pw [t] _ rfl 1 rfl (by decide) (by have h9 := HLEN.out; first | omega | (simp at h9 ⊢; omega))).mono ?_
  rintro e w3 ⟨rfl, row3, hF3⟩; replace HB := Z_ (HB.out.call hF3).assoc; clear hF3; rw [then_say] at HT; have hbc := HB.out.nb.cell; go_upto_region 5 with (fail)
  go_wp2_with fail
  clear hbc; have HLN := Z_ (show acc.length + ([] ++ pw ++ [labW lb] ++ [t]).length + 12 * szL l + 6 ≤ 1000000 from by have h9 := HLEN.out; simp; omega); generalize [] ++ pw ++ [labW lb] ++ [t] = ws0 at *; go_loopw [25] (fun i wr => ∃ (j : Nat) (ws : List ByteArray) (r : Value), j ≤ N ∧ i = .int .i64 (j : Nat) ∧ Hid (PO.then (true, ws) ((seqP (ks.drop j)).then ((sayP [sSemi]).then (sayP []))) = T) ∧ Hid (PB W u wr S Nb row r (acc ++ ws) #[.int .i64 k, .string t, .int .i64 m, .slice a N cc]) ∧ Hid (acc.length + ws.length + 12 * szL (l.drop j) + 6 ≤ 1000000 + 3 * j)) (fun i _ => N - (intOf i).toNat)
  case atStart => exact ⟨0, ws0, _, Nat.zero_le _, rfl, by rw [List.drop_zero]; exact HT, HB, by rw [List.drop_zero]; exact Z_ (by have := HLN.out; omega)⟩
  clear HT HB
  case round =>
   obtain ⟨j, ws, r, hj, rfl, HT, HB, HLN2⟩ := hrel; by_cases hlt : j < N
   ·
    have hji : (j : Int) < (N : Int) := by omega
    have hjd : decide ((j : Int) < (N : Int)) = true := by simpa using hji
    have hjl : j < l.length := by rw [HN.out]; exact hlt
    have hN1 : N ≤ 1 := by have := (named_m HPB.out).2.2.2; omega
    obtain ⟨b, o, k1, t1, m1, a1, n1, c1, ha, hu, q0, q1, q2, q3⟩ := kid_at HB.out.f.pw.ext HI.out j hjl; subst ha; have hdr : ks.drop j = roomP l[j] :: ks.drop (j + 1) := by rw [← HKS.out, List.drop_eq_getElem_cons (by simpa using hjl)]; simp
    have hln := HLN2.out; rw [List.drop_eq_getElem_cons hjl] at hln; simp only [szL] at hln; generalize l[j] = x at *; rw [hdr, seqP] at HT; unfold roomP at HT; simp only [then_assoc] at HT; have hkd := ng_kd hu; rw [hkd] at HT; obtain ⟨p, hp⟩ : ∃ p, exP 0 x = p := ⟨_, rfl⟩; have hpl2 := exP_len x 0; rw [hp] at hpl2 HT; have HPK := Z_ hp; replace HLN2 := Z_ hln; clear hp hdr hkd hln; obtain ⟨K, hK⟩ : ∃ K, wr.heap.size = K := ⟨_, rfl⟩; have HKB := Z_ (show Blk (wr.alloc (.cells #[.int .i64 k1, .string t1, .int .i64 m1, .slice a1 n1 c1] 66)) K #[.int .i64 k1, .string t1, .int .i64 m1, .slice a1 n1 c1] 66 by rw [← hK]; exact Blk.made wr _ _); have HKS2 := Z_ (show S < K ∧ ∀ i, r.ownBlock = some i → i < K from ⟨by rw [← hK]; exact HB.out.f.pw.s.lt, fun i e => by rw [← hK]; exact (HB.out.f.pw.own i e).2⟩); replace HB := Z_ (HB.out.extend ((Chg.refl (fun _ => False) wr).alloc (.cells #[.int .i64 k1, .string t1, .int .i64 m1, .slice a1 n1 c1] 66)))
    go_upto_region 8 with (fail)
    try rw [hK]
    generalize wr.alloc (.cells #[.int .i64 k1, .string t1, .int .i64 m1, .slice a1 n1 c1] 66) = u5 at *; clear q0 q1 q2 q3 hK; have hkc := HKB.out.cell; go_wp2_with fail
    clear hkc; refine (must_any (decide (k1 = 15)) _).mono ?_
    rintro e w3 ⟨rfl, rfl⟩; cases hpc : decide (k1 = 15) with
    | false =>
     rw [hpc] at HT; simp only [Bool.false_eq_true, if_false]; go_wp2_with fail
     exact ⟨rfl, ppost_bad (by rw [← HT.out, then_no]) HB.out.f⟩
    | true =>
     rw [hpc, then_yes] at HT; simp only [if_true]; clear hpc; go_wp2_with fail
     refine (say_new HB.out.f.pw [sBra] _ rfl 1 rfl (by decide) (by have h9 := HLN2.out; simp; omega)).mono ?_
     rintro e w3 ⟨rfl, row3, hF3⟩; replace HB := Z_ (HB.out.call hF3).assoc; replace HKB := Z_ (HKB.out.chg hF3.chg (fun e => by rcases e with e | e; (have := HKS2.out.1; omega); (have := HKS2.out.2 _ e; omega))); clear hF3; rw [then_say] at HT; have HIK := Z_ (HEX.out x _ _ _ _ 0 HB.out.f.pw hu (by have h9 := HLN2.out; simp; omega) (by decide) (by decide)); rw [HPK.out] at HIK; have hkc := HKB.out.cell; go_wp2_with fail
     clear hkc hu; refine HIK.out.mono ?_
     rintro e w3 ⟨⟨row3, hF3⟩, he⟩; replace HB := Z_ (HB.out.call hF3).assoc; clear hF3 HIK; obtain ⟨pb, pw2⟩ := p; cases pb with
     | false =>
      obtain rfl : e = _ := he; simp only [Bool.false_eq_true, if_false]; go_wp2_with fail
      exact ⟨rfl, ppost_bad (by rw [← HT.out, then_bad]) HB.out.f⟩
     | true =>
      obtain rfl : e = _ := he; rw [then_ok] at HT; simp only [if_true]
      try simp only at hpl2
      go_wp2_with fail
      refine (say_new HB.out.f.pw [sKet] _ rfl 1 rfl (by decide) (by have h9 := HLN2.out; simp; omega)).mono ?_
      rintro e w3 ⟨rfl, row3, hF3⟩; replace HB := Z_ (HB.out.call hF3).assoc; clear hF3; rw [then_say] at HT; go_wp2_with fail
      go_roundw
      case rel => exact ⟨j + 1, _, _, hlt, by go_num, HT, HB, Z_ (by have h9 := HLN2.out; simp; omega)⟩
      case measure => simp [intOf]; omega
   ·obtain rfl : j = N := by omega
    have hjd : decide ((j : Int) < (j : Int)) = false := by simp
    have hdn : ks.drop j = [] := by rw [← HKS.out]; exact List.drop_eq_nil_of_le (by rw [List.length_map, HN.out]; exact Nat.le_refl _)
    rw [hdn, seqP, then_say] at HT; replace HB := Z_ HB.out.nil; rw [List.append_assoc] at HB; go_wp2_with fail
    have h8 := HLN.out; have h9 := HLN2.out; have hN1 : j ≤ 1 := by have := (named_m HPB.out).2.2.2; omega
    refine (say_new HB.out.f.pw [sSemi] _ rfl 1 rfl (by decide) (by simp; omega)).mono ?_
    rintro e w3 ⟨rfl, row3, hF3⟩; replace HB := Z_ (HB.out.call hF3).assoc; clear hF3; rw [then_say] at HT; go_wp2_with fail
    go_end0
    exact ppost_ok (by rw [← HT.out, then_nil]) HB.out.f
theorem ng_all {w : World} {x : Nd} {k m : Int} {t : ByteArray} {a : Option Addr} {n c : Nat} (h : NgAt w x (.agg #[.int .i64 k, .string t, .int .i64 m, .slice a n c])) : ∃ l, x = .mk k t m l ∧ l.length = n ∧ t.size ≤ maxLen := by
 cases x with
 | mk k0 t0 m0 l0 =>
  rw [ngAt_mk] at h; obtain ⟨a0, c0, e, -, -, h3, -⟩ := h; simp only [Value.agg.injEq, Array.mk.injEq, List.cons.injEq, Value.int.injEq, Value.string.injEq, Value.slice.injEq] at e; obtain ⟨⟨-, rfl⟩, rfl, ⟨-, rfl⟩, ⟨-, rfl, -⟩, -⟩ := e; exact ⟨l0, rfl, rfl, h3.1⟩
theorem szL_snoc (b : Nd) : ∀ l : List Nd, szL (l ++ [b]) = szL l + szF b
 | [] => by simp [szL]
 | x :: r => by rw [List.cons_append, szL, szL, szL_snoc b r]; omega
theorem par_drop : ∀ (l : List Nd) (i j : Nat) (hj : j < l.length), parsP (l.drop j) i = (parP i l[j]).then (parsP (l.drop (j + 1)) (i + 1))
 | x :: r, i, 0, _ => by rw [List.drop_zero, parsP]; rfl
 | x :: r, i, j + 1, hj => by
  rw [List.drop_succ_cons, List.drop_succ_cons, par_drop r i j (by simpa using hj)]; rfl
def PrC (W : World) (S : Nat) (x : Nd) : Prop := ∀ (v : Value) (u : World) (row : Value) (acc : List ByteArray), PW W u S row acc → NgAt W x v → acc.length + 12 * szF x ≤ 1000000 →
 Calls Tryz.prog 169 #[.pointer (some ⟨S, 0, none⟩), v] u (PPost W u S row acc (procP x))
set_option maxRecDepth 100000 in
set_option maxHeartbeats 16000000 in
theorem proc_any {W : World} {S : Nat} (hv : ErrVar W) (hmv : MaxVar W) (htab : Lib.TabIs Tryz.prog W "internal/strconv.uint64pow10" .u64 Lib.pow10Tab) (k : Int) (t : ByteArray) (m : Int) (l : List Nd) : PrC W S (.mk k t m l) := by
 intro v u row acc h hnd hm; rw [ngAt_mk] at hnd; obtain ⟨a, cc, rfl, hc1, hc2, ⟨hts, hmi⟩, hrow⟩ := hnd; obtain ⟨N, hN⟩ : ∃ N, l.length = N := ⟨_, rfl⟩; rw [hN] at hc1 ⊢; have hNm : N ≤ 9223372036854775807 := by unfold maxLen at hc2; omega
 have HN := Z_ hN; have HI := Z_ hrow; have HEX := Z_ (expr_any (S := S) hv hmv htab); have HSB := Z_ (sb_any (S := S) hv hmv htab); have HV := Z_ hv; have HMV := Z_ hmv; have HLEN := Z_ (show acc.length + 12 * (1 + szL l) ≤ 1000000 from by simp only [szF] at hm; omega); have HTS := Z_ hts; have HB := Z_ (PB.made h #[.int .i64 k, .string t, .int .i64 m, .slice a N cc]).nil; obtain ⟨Nb, hNb⟩ : ∃ Nb, u.heap.size = Nb := ⟨_, rfl⟩; rw [hNb] at HB; obtain ⟨T, hT⟩ : ∃ T, procP (.mk k t m l) = T := ⟨_, rfl⟩; rw [hT]; obtain ⟨lb, hlb⟩ : ∃ lb, (bits .and .i64 m 1 != 0) = lb := ⟨_, rfl⟩; have HLB := Z_ hlb; have HT := Z_ (show PO.then (true, []) ((mustP (namedB t m N 1 (-1) 11)).then ((sayP (pubW m)).then ((sayP [sProc, t, sOpen]).then ((parsP l.dropLast 0).then ((sayP [sClose]).then ((sayP [labW (decide (m % 2 = 1))]).then ((if 4 ≤ m then (sayP [sGives]).then (sayP [labW (decide (8 ≤ m))]) else sayP []).then ((blP (l.getLastD zeroN)).then (sayP [])))))))) ) = T by rw [← hT, ← hN, ← then_one (blP _), ← then_start]; rfl)
 clear hT hrow hv hmv htab hm hts hmi h hN; obtain ⟨pb, hpb⟩ : ∃ pb, namedB t m N 1 (-1) 11 = pb := ⟨_, rfl⟩; have HPL := Z_ (fun w (hE : Ext W w) => named_any k m t a N cc 1 (-1) 11 w HTS.out (HV.out.ext hE) (HMV.out.ext hE)); rw [hpb] at HPL HT; have HPB := Z_ hpb; clear hpb; go_enter Tryz.func169, Tryz.ntmps169
 go_upto_region 1 with (fail)
 try rw [hNb]
 generalize u.alloc (.cells #[.int .i64 k, .string t, .int .i64 m, .slice a N cc] 66) = u0 at *; clear hNb; have hbc := HB.out.nb.cell; go_wp2_with fail
 try clear hbc
 refine (HPL.out _ HB.out.f.pw.ext).mono ?_
 rintro e w3 ⟨he, hE3⟩; replace HB := Z_ (HB.out.extend hE3); clear hE3; cases pb with
 | false =>
  obtain rfl : e = _ := he; simp only [Bool.false_eq_true, if_false]; go_wp2_with fail
  exact ⟨rfl, ppost_bad (by rw [← HT.out, then_no]) HB.out.f⟩
 | true =>
  obtain rfl : e = _ := he; rw [then_yes] at HT; simp only [if_true]; obtain ⟨hm0, hm3, hn1, -⟩ := named_m HPB.out; have HMM := Z_ (show 0 ≤ m ∧ m ≤ 11 from by omega); obtain ⟨ps, bb, rfl⟩ : ∃ ps bb, l = ps ++ [bb] := by rcases List.eq_nil_or_concat l with e | ⟨ps, bb, e⟩; (have := HN.out; rw [e] at this; simp at this; omega); exact ⟨ps, bb, by simpa using e⟩
  obtain ⟨n, hn⟩ : ∃ n, ps.length = n := ⟨_, rfl⟩; obtain rfl : N = n + 1 := by rw [← HN.out, ← hn]; simp
  have HNP := Z_ hn; rw [List.dropLast_concat, List.getLastD_concat] at HT; have HLEN2 := Z_ (show acc.length + 12 * (1 + (szL ps + szF bb)) ≤ 1000000 from by have := HLEN.out; rw [szL_snoc] at this; exact this); clear HLEN; have HLEN := HLEN2; clear HLEN2 hm0 hm3 hn1 hn; have HO := Z_ (show decide (m % 2 = 1) = lb from by rw [← HLB.out, odd_bit HMM.out.1 HMM.out.2]); rw [HO.out] at HT; have hpl := pub_len m; generalize hpw : pubW m = pw at *; have HPU := Z_ (fun (u : World) (row : Value) (acc : List ByteArray) (h : PW W u S row acc) hm => pub_any h k m t a (n + 1) cc HMM.out.1 HMM.out.2 hm); rw [hpw] at HPU; clear hpw; have hbc := HB.out.nb.cell; go_wp2_with fail
  try clear hbc
  refine (HPU.out _ _ _ HB.out.f.pw (by have h9 := HLEN.out; first | omega | (simp at h9 ⊢; omega))).mono ?_
  rintro e w3 ⟨rfl, row3, hF3⟩; replace HB := Z_ (HB.out.call hF3).assoc; clear hF3 HPU; rw [then_say] at HT; have hbc := HB.out.nb.cell; go_wp2_with fail
  try clear hbc
  refine (say_new HB.out.f.pw [sProc, t, sOpen] _ rfl 3 rfl (by decide) (by have h9 := HLEN.out; first | omega | (simp at h9 ⊢; omega))).mono ?_
  rintro e w3 ⟨rfl, row3, hF3⟩; replace HB := Z_ (HB.out.call hF3).assoc; clear hF3; rw [then_say] at HT; have hwn : IntKind.i64.wrap ((n : Int) + 1 - 1) = (n : Int) := by rw [wrap_small _ (by omega) (by omega)]; omega
  have hni : (n : Int) ≤ (cc : Int) := by omega
  have hn0 : (0 : Int) ≤ (n : Int) := by omega
  have hbc := HB.out.nb.cell; go_upto_region 5 with (fail)
  go_wp2_with fail
  clear hbc hwn hni hn0; have HLN := Z_ (show acc.length + ([] ++ pw ++ [sProc, t, sOpen]).length + 12 * szL ps + 12 * szF bb + 4 ≤ 1000000 from by have h9 := HLEN.out; simp; omega); generalize [] ++ pw ++ [sProc, t, sOpen] = ws0 at *; go_loopw [27] (fun i wr => ∃ (j : Nat) (ws : List ByteArray) (r : Value), j ≤ n ∧ i = .int .i64 (j : Nat) ∧ Hid (PO.then (true, ws) ((parsP (ps.drop j) j).then ((sayP [sClose]).then ((sayP [labW lb]).then ((if 4 ≤ m then (sayP [sGives]).then (sayP [labW (decide (8 ≤ m))]) else sayP []).then ((blP bb).then (sayP [])))))) = T) ∧ Hid (PB W u wr S Nb row r (acc ++ ws) #[.int .i64 k, .string t, .int .i64 m, .slice a (n + 1) cc]) ∧ Hid (acc.length + ws.length + 12 * szL (ps.drop j) + 12 * szF bb + 4 ≤ 1000000)) (fun i _ => n - (intOf i).toNat)
  case atStart => exact ⟨0, ws0, _, Nat.zero_le _, rfl, by rw [List.drop_zero]; exact HT, HB, by rw [List.drop_zero]; exact HLN⟩
  clear HT HB HLN
  case round =>
   obtain ⟨j, ws, r, hj, rfl, HT, HB, HLN2⟩ := hrel; by_cases hlt : j < n
   ·
    have hji : (j : Int) < (n : Int) := by omega
    have hjd : decide ((j : Int) < (n : Int)) = true := by simpa using hji
    have hjp : j < ps.length := by rw [HNP.out]; exact hlt
    have hjl : j < (ps ++ [bb]).length := by rw [List.length_append]; omega
    obtain ⟨b, o, k1, t1, m1, a1, n1, c1, ha, hu, q0, q1, q2, q3⟩ := kid_at HB.out.f.pw.ext HI.out j hjl; subst ha; have hye : (ps ++ [bb])[j] = ps[j] := List.getElem_append_left hjp; rw [hye] at hu; have hdr := par_drop ps j j hjp; have hln := HLN2.out; rw [List.drop_eq_getElem_cons hjp] at hln; simp only [szL] at hln; generalize ps[j] = x at *; obtain ⟨l1, rfl, hl1, hts1⟩ := ng_all hu; rw [hdr] at HT; unfold parP at HT; simp only [then_assoc] at HT; replace HT := Z_ (show PO.then (true, ws) ((mustP (decide (k1 = 5))).then ((sayP (if 0 < j then [sComma] else [])).then ((mustP (namedB t1 m1 l1.length 0 0 1)).then ((sayP [labW (decide (m1 = 1))]).then ((sayP [t1]).then ((parsP (ps.drop (j + 1)) (j + 1)).then ((sayP [sClose]).then ((sayP [labW lb]).then ((if 4 ≤ m then (sayP [sGives]).then (sayP [labW (decide (8 ≤ m))]) else sayP []).then ((blP bb).then (sayP []))))))))))) = T from HT.out)
    rw [hl1] at HT; have HTS1 := Z_ hts1; have hsx : 1 ≤ szF (.mk k1 t1 m1 l1) := by simp only [szF]; omega
    generalize szF (.mk k1 t1 m1 l1) = sx at *; replace HLN2 := Z_ hln; clear hdr hln hye hu hts1 hl1; obtain ⟨K, hK⟩ : ∃ K, wr.heap.size = K := ⟨_, rfl⟩; have HKB := Z_ (show Blk (wr.alloc (.cells #[.int .i64 k1, .string t1, .int .i64 m1, .slice a1 n1 c1] 66)) K #[.int .i64 k1, .string t1, .int .i64 m1, .slice a1 n1 c1] 66 by rw [← hK]; exact Blk.made wr _ _); have HKS2 := Z_ (show S < K ∧ ∀ i, r.ownBlock = some i → i < K from ⟨by rw [← hK]; exact HB.out.f.pw.s.lt, fun i e => by rw [← hK]; exact (HB.out.f.pw.own i e).2⟩); replace HB := Z_ (HB.out.extend ((Chg.refl (fun _ => False) wr).alloc (.cells #[.int .i64 k1, .string t1, .int .i64 m1, .slice a1 n1 c1] 66))); go_upto_region 8 with (fail)
    try rw [hK]
    generalize wr.alloc (.cells #[.int .i64 k1, .string t1, .int .i64 m1, .slice a1 n1 c1] 66) = u5 at *; clear q0 q1 q2 q3 hK; have hkc := HKB.out.cell; go_wp2_with fail
    clear hkc; refine (must_any (decide (k1 = 5)) _).mono ?_
    rintro e w3 ⟨rfl, rfl⟩; cases hpc : decide (k1 = 5) with
    | false =>
     rw [hpc] at HT; simp only [Bool.false_eq_true, if_false]; go_wp2_with fail
     exact ⟨rfl, ppost_bad (by rw [← HT.out, then_no]) HB.out.f⟩
    | true =>
     rw [hpc, then_yes] at HT; simp only [if_true]; clear hpc; by_cases hj0 : j = 0
     ·
      have hjz : ¬ (0 : Int) < (j : Int) := by omega
      have hjzd : decide ((0 : Int) < (j : Int)) = false := by simpa using hjz
      rw [if_neg (by omega), then_say] at HT; replace HB := Z_ HB.out.nil; rw [List.append_assoc] at HB; obtain ⟨nb, hnb⟩ : ∃ nb, namedB t1 m1 n1 0 0 1 = nb := ⟨_, rfl⟩; rw [hnb] at HT; have hkc := HKB.out.cell; go_wp2_with fail
      clear hkc; have HNM := Z_ (named_any k1 m1 t1 a1 n1 c1 0 0 1 _ HTS1.out (HV.out.ext HB.out.f.pw.ext) (HMV.out.ext HB.out.f.pw.ext)); rw [hnb] at HNM; clear hnb; refine HNM.out.mono ?_
      rintro e w3 ⟨he, hE3⟩; replace HB := Z_ (HB.out.extend hE3); replace HKB := Z_ (HKB.out.ext hE3); have HKS3 := HKS2; clear hE3 HNM; cases nb with
      | false =>
       obtain rfl : e = _ := he; simp only [Bool.false_eq_true, if_false]; go_wp2_with fail
       exact ⟨rfl, ppost_bad (by rw [← HT.out, then_no]) HB.out.f⟩
      | true =>
       obtain rfl : e = _ := he; rw [then_yes] at HT; simp only [if_true]; have hkc := HKB.out.cell; go_wp2_with fail
       clear hkc; refine (label_any HB.out.f.pw (decide (m1 = 1)) (by have h9 := HLN2.out; simp; omega)).mono ?_
       rintro e w3 ⟨rfl, row3, hF3⟩; replace HB := Z_ (HB.out.call hF3).assoc; clear hF3; rw [then_say] at HT; go_wp2_with fail
       refine (say_new HB.out.f.pw [t1] _ rfl 1 rfl (by decide) (by have h9 := HLN2.out; simp; omega)).mono ?_
       rintro e w3 ⟨rfl, row3, hF3⟩; replace HB := Z_ (HB.out.call hF3).assoc; clear hF3; rw [then_say] at HT; go_wp2_with fail
       go_roundw
       case rel => exact ⟨j + 1, _, _, hlt, by go_num, HT, HB, Z_ (by have h9 := HLN2.out; simp; omega)⟩
       case measure => simp [intOf]; omega
     ·
      have hjz : (0 : Int) < (j : Int) := by omega
      have hjzd : decide ((0 : Int) < (j : Int)) = true := by simpa using hjz
      rw [if_pos (by omega)] at HT; go_wp2_with fail
      refine (say_new HB.out.f.pw [sComma] _ rfl 1 rfl (by decide) (by have h9 := HLN2.out; simp; omega)).mono ?_
      rintro e w3 ⟨rfl, row3, hF3⟩; replace HB := Z_ (HB.out.call hF3).assoc; replace HKB := Z_ (HKB.out.chg hF3.chg (fun e => by rcases e with e | e; (have := HKS2.out.1; omega); (have := HKS2.out.2 _ e; omega))); clear hF3; rw [then_say] at HT; obtain ⟨nb, hnb⟩ : ∃ nb, namedB t1 m1 n1 0 0 1 = nb := ⟨_, rfl⟩; rw [hnb] at HT; have hkc := HKB.out.cell; go_wp2_with fail
      clear hkc; have HNM := Z_ (named_any k1 m1 t1 a1 n1 c1 0 0 1 _ HTS1.out (HV.out.ext HB.out.f.pw.ext) (HMV.out.ext HB.out.f.pw.ext)); rw [hnb] at HNM; clear hnb; refine HNM.out.mono ?_
      rintro e w3 ⟨he, hE3⟩; replace HB := Z_ (HB.out.extend hE3); replace HKB := Z_ (HKB.out.ext hE3); have HKS3 := HKS2; clear hE3 HNM; cases nb with
      | false =>
       obtain rfl : e = _ := he; simp only [Bool.false_eq_true, if_false]; go_wp2_with fail
       exact ⟨rfl, ppost_bad (by rw [← HT.out, then_no]) HB.out.f⟩
      | true =>
       obtain rfl : e = _ := he; rw [then_yes] at HT; simp only [if_true]; have hkc := HKB.out.cell; go_wp2_with fail
       clear hkc; refine (label_any HB.out.f.pw (decide (m1 = 1)) (by have h9 := HLN2.out; simp; omega)).mono ?_
       rintro e w3 ⟨rfl, row3, hF3⟩; replace HB := Z_ (HB.out.call hF3).assoc; clear hF3; rw [then_say] at HT; go_wp2_with fail
       refine (say_new HB.out.f.pw [t1] _ rfl 1 rfl (by decide) (by have h9 := HLN2.out; simp; omega)).mono ?_
       rintro e w3 ⟨rfl, row3, hF3⟩; replace HB := Z_ (HB.out.call hF3).assoc; clear hF3; rw [then_say] at HT; go_wp2_with fail
       go_roundw
       case rel => exact ⟨j + 1, _, _, hlt, by go_num, HT, HB, Z_ (by have h9 := HLN2.out; simp; omega)⟩
       case measure => simp [intOf]; omega
   ·obtain rfl : j = n := by omega
    have hjd : decide ((j : Int) < (j : Int)) = false := by simp
    have hdn : ps.drop j = [] := List.drop_eq_nil_of_le (by rw [HNP.out]; exact Nat.le_refl _); have h8 := HLN2.out; rw [hdn] at HT h8; rw [parsP, then_say] at HT; replace HB := Z_ HB.out.nil; rw [List.append_assoc] at HB; simp only [szL] at h8; replace HLN2 := Z_ h8; clear h8 hdn; go_wp2_with fail
    refine (say_new HB.out.f.pw [sClose] _ rfl 1 rfl (by decide) (by have h9 := HLN2.out; simp; omega)).mono ?_
    rintro e w3 ⟨rfl, row3, hF3⟩; replace HB := Z_ (HB.out.call hF3).assoc; clear hF3; rw [then_say] at HT; have hbc := HB.out.nb.cell; go_wp2_with fail
    try clear hbc
    refine (label_any HB.out.f.pw lb (by have h9 := HLN2.out; simp; omega)).mono ?_
    rintro e w3 ⟨rfl, row3, hF3⟩; replace HB := Z_ (HB.out.call hF3).assoc; clear hF3; rw [then_say] at HT; by_cases h4 : 4 ≤ m
    ·
     have h4d : decide (4 ≤ m) = true := by simpa using h4
     rw [if_pos h4] at HT; simp only [then_assoc] at HT; have hbc := HB.out.nb.cell; go_wp2_with fail
     try clear hbc
     refine (say_new HB.out.f.pw [sGives] _ rfl 1 rfl (by decide) (by have h9 := HLN2.out; simp; omega)).mono ?_
     rintro e w3 ⟨rfl, row3, hF3⟩; replace HB := Z_ (HB.out.call hF3).assoc; clear hF3; rw [then_say] at HT; have hbc := HB.out.nb.cell; go_wp2_with fail
     try clear hbc
     refine (label_any HB.out.f.pw (decide (8 ≤ m)) (by have h9 := HLN2.out; simp; omega)).mono ?_
     rintro e w3 ⟨rfl, row3, hF3⟩; replace HB := Z_ (HB.out.call hF3).assoc; clear hF3; rw [then_say] at HT; have hjl : j < (ps ++ [bb]).length := by rw [List.length_append, HNP.out]; simp
     obtain ⟨b, o, k1, t1, m1, a1, n1, c1, ha, hu, q0, q1, q2, q3⟩ := kid_at HB.out.f.pw.ext HI.out j hjl; subst ha; have hye : (ps ++ [bb])[j] = bb := by rw [List.getElem_append_right (by rw [HNP.out]; exact Nat.le_refl _)]; simp [HNP.out]
     rw [hye] at hu; have HIK := Z_ ((HSB.out bb).2 _ _ _ _ HB.out.f.pw hu (by have h9 := HLN2.out; simp; omega)); obtain ⟨p, hp⟩ : ∃ p, blP bb = p := ⟨_, rfl⟩; rw [hp] at HIK HT; have hjb0 : (0 : Int) ≤ (j : Int) := by omega
     have hjb1 : (j : Int) < (j : Int) + 1 := by omega
     have hbc := HB.out.nb.cell; clear hye hp hu hjl; go_wp2_with fail
     try clear hbc
     clear q0 q1 q2 q3; refine HIK.out.mono ?_
     rintro e w3 ⟨⟨row3, hF3⟩, he⟩; replace HB := Z_ (HB.out.call hF3).assoc; clear hF3 HIK; obtain ⟨pb, pw2⟩ := p; cases pb with
     | false =>
      obtain rfl : e = _ := he; simp only [Bool.false_eq_true, if_false]; go_wp2_with fail
      exact ⟨rfl, ppost_bad (by rw [← HT.out, then_bad]) HB.out.f⟩
     | true =>
      obtain rfl : e = _ := he; rw [then_ok] at HT; simp only [if_true]; go_wp2_with fail
      go_end0
      exact ppost_ok (by rw [← HT.out, then_nil]) HB.out.f
    ·
     have h4d : decide (4 ≤ m) = false := by simpa using h4
     rw [if_neg h4, then_say] at HT; replace HB := Z_ HB.out.nil; rw [List.append_assoc] at HB; have hjl : j < (ps ++ [bb]).length := by rw [List.length_append, HNP.out]; simp
     obtain ⟨b, o, k1, t1, m1, a1, n1, c1, ha, hu, q0, q1, q2, q3⟩ := kid_at HB.out.f.pw.ext HI.out j hjl; subst ha; have hye : (ps ++ [bb])[j] = bb := by rw [List.getElem_append_right (by rw [HNP.out]; exact Nat.le_refl _)]; simp [HNP.out]
     rw [hye] at hu; have HIK := Z_ ((HSB.out bb).2 _ _ _ _ HB.out.f.pw hu (by have h9 := HLN2.out; simp; omega)); obtain ⟨p, hp⟩ : ∃ p, blP bb = p := ⟨_, rfl⟩; rw [hp] at HIK HT; have hjb0 : (0 : Int) ≤ (j : Int) := by omega
     have hjb1 : (j : Int) < (j : Int) + 1 := by omega
     have hbc := HB.out.nb.cell; clear hye hp hu hjl; go_wp2_with fail
     try clear hbc
     clear q0 q1 q2 q3; refine HIK.out.mono ?_
     rintro e w3 ⟨⟨row3, hF3⟩, he⟩; replace HB := Z_ (HB.out.call hF3).assoc; clear hF3 HIK; obtain ⟨pb, pw2⟩ := p; cases pb with
     | false =>
      obtain rfl : e = _ := he; simp only [Bool.false_eq_true, if_false]; go_wp2_with fail
      exact ⟨rfl, ppost_bad (by rw [← HT.out, then_bad]) HB.out.f⟩
     | true =>
      obtain rfl : e = _ := he; rw [then_ok] at HT; simp only [if_true]; go_wp2_with fail
      go_end0
      exact ppost_ok (by rw [← HT.out, then_nil]) HB.out.f
theorem var_len (x : Nd) : (varP x).2.length + 1 ≤ 12 * szF x := by
 obtain ⟨k, t, m, l⟩ := x
 have hK : ∀ (r : List Nd), sumP (r.map roomP) ≤ 12 * szL r + 2 * r.length := by
  intro r; induction r with
  | nil => simp [sumP]
  | cons x r ih =>
   have h1 := exP_len x 0
   have h2 : (roomP x).2.length ≤ (exP 0 x).2.length + 2 := by
    unfold roomP; refine Nat.le_trans (must_le _ _) ?_
    rw [say_len]; have h3 := po_len (exP 0 x) (sayP [sKet]); have h4 : (sayP [sKet]).2.length = 1 := rfl; simp only [List.length_cons, List.length_nil] at *; omega
   simp only [sumP, List.map_cons, List.sum_cons, szL, List.length_cons] at ih ⊢; omega
 have h0 : (varP (.mk k t m l)).2.length ≤ 12 * szL l + 6 := by
  unfold varP; refine must_le2 fun hp => ?_
  obtain ⟨-, -, -, hN⟩ := named_m hp; have hN1 : l.length ≤ 1 := by omega
  have h1 := hK l; have h2 := pub_len m; have h3 := seq_len (l.map roomP); have h4 := po_len (seqP (l.map roomP)) (sayP [sSemi]); have h5 : (sayP [sSemi]).2.length = 1 := rfl; have h6 : (seqP (l.map fun x => (mustP (decide (x.kd = 15))).then ((sayP [sBra]).then ((exP 0 x).then (sayP [sKet]))))) = seqP (l.map roomP) := rfl; rw [say_len, say_len, say_len, h6]; simp only [List.length_cons, List.length_nil] at *; omega
 simp only [szF]; omega
theorem szF_pos (x : Nd) : 1 ≤ szF x := by cases x; simp only [szF]; omega
theorem pars_len : ∀ (l : List Nd) (i : Nat), (parsP l i).2.length ≤ 12 * szL l
 | [], _ => by simp [parsP, sayP]
 | x :: r, i => by
  have h1 := pars_len r (i + 1); have h2 := po_len (parP i x) (parsP r (i + 1))
  have h3 : (parP i x).2.length ≤ 3 := by
   unfold parP; refine Nat.le_trans (must_le _ _) ?_
   rw [say_len]; have h4 := must_le (namedB x.tx x.nm x.kids.length 0 0 1) ((sayP [labW (decide (x.nm = 1))]).then (sayP [x.tx])); rw [say_len] at h4; have h5 : (sayP [x.tx]).2.length = 1 := rfl; have h6 : (if 0 < i then [sComma] else ([] : List ByteArray)).length ≤ 1 := by split <;> simp
   simp only [List.length_cons, List.length_nil] at *; omega
  have h4 := szF_pos x; rw [parsP]; simp only [szL]; omega
theorem proc_len (x : Nd) : (procP x).2.length + 1 ≤ 12 * szF x := by
 obtain ⟨k, t, m, l⟩ := x
 have h0 : (procP (.mk k t m l)).2.length ≤ 12 * szL l + 8 := by
  unfold procP; refine must_le2 fun hp => ?_
  obtain ⟨-, -, hN, -⟩ := named_m hp; rcases List.eq_nil_or_concat l with e | ⟨ps, bb, e⟩
  ·rw [e] at hN; simp at hN
  ·rw [List.concat_eq_append] at e
   subst e; rw [List.dropLast_concat, List.getLastD_concat, szL_snoc]; have h1 := pars_len ps 0; have h2 := pub_len m; have h3 := (stP_len bb).2; have h4 := po_len (parsP ps 0) ((sayP [sClose]).then ((sayP [labW (decide (m % 2 = 1))]).then ((if 4 ≤ m then (sayP [sGives]).then (sayP [labW (decide (8 ≤ m))]) else sayP []).then (blP bb)))); have h5 := po_len (if 4 ≤ m then (sayP [sGives]).then (sayP [labW (decide (8 ≤ m))]) else sayP []) (blP bb); have h6 : (if 4 ≤ m then (sayP [sGives]).then (sayP [labW (decide (8 ≤ m))]) else sayP []).2.length ≤ 2 := by split <;> simp [sayP, PO.then]
   rw [say_len, say_len] at h4; rw [say_len, say_len]; simp only [List.length_cons, List.length_nil] at *; omega
 simp only [szF]; omega
theorem decls_drop : ∀ (l : List Nd) (d : Bool) (j : Nat) (hj : j < l.length), declsP (l.drop j) d = (declP d l[j]).then (declsP (l.drop (j + 1)) (d || !decide (l[j].kd = 2)))
 | x :: r, d, 0, _ => by rw [List.drop_zero, declsP]; rfl
 | x :: r, d, j + 1, hj => by
  rw [List.drop_succ_cons, List.drop_succ_cons, decls_drop r d j (by simpa using hj)]; rfl
def MoC (W : World) (S : Nat) (x : Nd) : Prop := ∀ (v : Value) (u : World) (row : Value) (acc : List ByteArray), PW W u S row acc → NgAt W x v → acc.length + 12 * szF x ≤ 1000000 →
 Calls Tryz.prog 94 #[.pointer (some ⟨S, 0, none⟩), v] u (PPost W u S row acc (modP x))
set_option maxRecDepth 100000 in
set_option maxHeartbeats 16000000 in
theorem mod_any {W : World} {S : Nat} (hv : ErrVar W) (hmv : MaxVar W) (htab : Lib.TabIs Tryz.prog W "internal/strconv.uint64pow10" .u64 Lib.pow10Tab) (k : Int) (t : ByteArray) (m : Int) (l : List Nd) : MoC W S (.mk k t m l) := by
 intro v u row acc h hnd hm; rw [ngAt_mk] at hnd; obtain ⟨a, cc, rfl, hc1, hc2, ⟨hts, hmi⟩, hrow⟩ := hnd; obtain ⟨N, hN⟩ : ∃ N, l.length = N := ⟨_, rfl⟩; rw [hN] at hc1 ⊢; have hNm : N ≤ 9223372036854775807 := by unfold maxLen at hc2; omega
 have HN := Z_ hN; have HI := Z_ hrow; have HVA := Z_ (var_any (S := S) hv hmv htab); have HPR := Z_ (proc_any (S := S) hv hmv htab); have HV := Z_ hv; have HMV := Z_ hmv; have HLEN := Z_ (show acc.length + 12 * (1 + szL l) ≤ 1000000 from by simp only [szF] at hm; omega); have HTS := Z_ hts; have HB := Z_ (PB.made h #[.int .i64 k, .string t, .int .i64 m, .slice a N cc]).nil; obtain ⟨Nb, hNb⟩ : ∃ Nb, u.heap.size = Nb := ⟨_, rfl⟩; rw [hNb] at HB; obtain ⟨T, hT⟩ : ∃ T, modP (.mk k t m l) = T := ⟨_, rfl⟩; rw [hT]; have HT := Z_ (show PO.then (true, []) ((mustP (decide (k = 1))).then ((mustP (namedB t m N 0 (-1) 0)).then ((sayP [sModule, t, sSemi]).then ((declsP l false).then (sayP []))))) = T by rw [← hT, ← hN, ← then_one (declsP _ _), ← then_start]; rfl); clear hT hrow hv hmv htab hm hts hmi h hN; obtain ⟨pb, hpb⟩ : ∃ pb, namedB t m N 0 (-1) 0 = pb := ⟨_, rfl⟩
 have HPL := Z_ (fun w (hE : Ext W w) => named_any k m t a N cc 0 (-1) 0 w HTS.out (HV.out.ext hE) (HMV.out.ext hE)); rw [hpb] at HPL HT; have HPB := Z_ hpb; clear hpb; go_enter Tryz.func94, Tryz.ntmps94
 go_upto_region 1 with (fail)
 try rw [hNb]
 generalize u.alloc (.cells #[.int .i64 k, .string t, .int .i64 m, .slice a N cc] 66) = u0 at *; clear hNb; have hbc := HB.out.nb.cell; go_wp2_with fail
 try clear hbc
 refine (must_any (decide (k = 1)) _).mono ?_
 rintro e w3 ⟨rfl, rfl⟩; cases hpc : decide (k = 1) with
 | false =>
  rw [hpc] at HT; simp only [Bool.false_eq_true, if_false]; go_wp2_with fail
  exact ⟨rfl, ppost_bad (by rw [← HT.out, then_no]) HB.out.f⟩
 | true =>
  rw [hpc, then_yes] at HT; simp only [if_true]; clear hpc; have hbc := HB.out.nb.cell; go_wp2_with fail
  try clear hbc
  refine (HPL.out _ HB.out.f.pw.ext).mono ?_
  rintro e w3 ⟨he, hE3⟩; replace HB := Z_ (HB.out.extend hE3); clear hE3; cases pb with
  | false =>
   obtain rfl : e = _ := he; simp only [Bool.false_eq_true, if_false]; go_wp2_with fail
   exact ⟨rfl, ppost_bad (by rw [← HT.out, then_no]) HB.out.f⟩
  | true =>
   obtain rfl : e = _ := he; rw [then_yes] at HT; simp only [if_true]; have hbc := HB.out.nb.cell; go_wp2_with fail
   try clear hbc
   refine (say_new HB.out.f.pw [sModule, t, sSemi] _ rfl 3 rfl (by decide) (by have h9 := HLEN.out; first | omega | (simp at h9 ⊢; omega))).mono ?_
   rintro e w3 ⟨rfl, row3, hF3⟩; replace HB := Z_ (HB.out.call hF3).assoc; clear hF3; rw [then_say] at HT; have hbc := HB.out.nb.cell; go_upto_region 4 with (fail)
   go_wp2_with fail
   clear hbc; have HLN := Z_ (show acc.length + ([] ++ [sModule, t, sSemi]).length + 12 * szL l ≤ 1000000 from by have h9 := HLEN.out; simp; omega); generalize [] ++ [sModule, t, sSemi] = ws0 at *; go_loopw [4, 19] (fun dv i wr => ∃ (j : Nat) (d : Bool) (ws : List ByteArray) (r : Value), j ≤ N ∧ i = .int .i64 (j : Nat) ∧ dv = .bool d ∧ Hid (PO.then (true, ws) ((declsP (l.drop j) d).then (sayP [])) = T) ∧ Hid (PB W u wr S Nb row r (acc ++ ws) #[.int .i64 k, .string t, .int .i64 m, .slice a N cc]) ∧ Hid (acc.length + ws.length + 12 * szL (l.drop j) ≤ 1000000)) (fun _ i _ => N - (intOf i).toNat)
   case atStart => exact ⟨0, false, ws0, _, Nat.zero_le _, rfl, rfl, by rw [List.drop_zero]; exact HT, HB, by rw [List.drop_zero]; exact HLN⟩
   clear HT HB HLN
   case round =>
    obtain ⟨j, d, ws, r, hj, rfl, rfl, HT, HB, HLN2⟩ := hrel; by_cases hlt : j < N
    ·
     have hji : (j : Int) < (N : Int) := by omega
     have hjd : decide ((j : Int) < (N : Int)) = true := by simpa using hji
     have hjl : j < l.length := by rw [HN.out]; exact hlt
     obtain ⟨b, o, k1, t1, m1, a1, n1, c1, ha, hu, q0, q1, q2, q3⟩ := kid_at HB.out.f.pw.ext HI.out j hjl; subst ha; have hdr := decls_drop l d j hjl; have hln := HLN2.out; rw [List.drop_eq_getElem_cons hjl] at hln; simp only [szL] at hln; generalize l[j] = x at *; obtain ⟨l1, rfl, hl1, hts1⟩ := ng_all hu; rw [hdr] at HT; simp only [then_assoc] at HT; replace HT := Z_ (show PO.then (true, ws) ((if k1 = 2 then (mustP (!d)).then ((mustP (namedB t1 m1 l1.length 0 0 0)).then (sayP [sImport, t1, sSemi])) else if k1 = 3 then varP (.mk k1 t1 m1 l1) else (mustP (decide (k1 = 4))).then (procP (.mk k1 t1 m1 l1))).then ((declsP (l.drop (j + 1)) (d || !decide (k1 = 2))).then (sayP []))) = T from HT.out); rw [hl1] at HT; have HTS1 := Z_ hts1; have HVX := Z_ (fun u row acc h hm => HVA.out k1 t1 m1 l1 _ u row acc h hu hm); have HPX := Z_ (fun u row acc h hm => HPR.out k1 t1 m1 l1 _ u row acc h hu hm)
     have hvl := var_len (.mk k1 t1 m1 l1); have hpl := proc_len (.mk k1 t1 m1 l1); have hsx := szF_pos (.mk k1 t1 m1 l1); generalize szF (.mk k1 t1 m1 l1) = sx at *; generalize varP (.mk k1 t1 m1 l1) = vp at *; generalize procP (.mk k1 t1 m1 l1) = pp at *; replace HLN2 := Z_ hln; clear hdr hln hu hts1 hl1; obtain ⟨K, hK⟩ : ∃ K, wr.heap.size = K := ⟨_, rfl⟩; have HKB := Z_ (show Blk (wr.alloc (.cells #[.int .i64 k1, .string t1, .int .i64 m1, .slice a1 n1 c1] 66)) K #[.int .i64 k1, .string t1, .int .i64 m1, .slice a1 n1 c1] 66 by rw [← hK]; exact Blk.made wr _ _); have HKS2 := Z_ (show S < K ∧ ∀ i, r.ownBlock = some i → i < K from ⟨by rw [← hK]; exact HB.out.f.pw.s.lt, fun i e => by rw [← hK]; exact (HB.out.f.pw.own i e).2⟩); replace HB := Z_ (HB.out.extend ((Chg.refl (fun _ => False) wr).alloc (.cells #[.int .i64 k1, .string t1, .int .i64 m1, .slice a1 n1 c1] 66)))
     go_upto_region 7 with (fail)
     try rw [hK]
     generalize wr.alloc (.cells #[.int .i64 k1, .string t1, .int .i64 m1, .slice a1 n1 c1] 66) = u5 at *; clear q0 q1 q2 q3 hK; by_cases k2 : k1 = 2
     ·
      subst k2; rw [if_pos rfl] at HT; simp only [then_assoc] at HT; replace HT := Z_ (show PO.then (true, ws) ((mustP (!d)).then ((mustP (namedB t1 m1 n1 0 0 0)).then ((sayP [sImport, t1, sSemi]).then ((declsP (l.drop (j + 1)) d).then (sayP []))))) = T by have h := HT.out; simp only [decide_true, Bool.not_true, Bool.or_false] at h; exact h); have hkc := HKB.out.cell; go_wp2_with fail
      clear hkc; refine (must_any (!d) _).mono ?_
      rintro e w3 ⟨rfl, rfl⟩; cases d with
      | true =>
       simp only [Bool.not_true, Bool.false_eq_true, if_false] at HT ⊢; go_wp2_with fail
       exact ⟨rfl, ppost_bad (by rw [← HT.out, then_no]) HB.out.f⟩
      | false =>
       simp only [Bool.not_false, if_true] at HT ⊢; rw [then_yes] at HT; obtain ⟨nb, hnb⟩ : ∃ nb, namedB t1 m1 n1 0 0 0 = nb := ⟨_, rfl⟩; rw [hnb] at HT; have hkc := HKB.out.cell; go_wp2_with fail
       clear hkc; have HNM := Z_ (named_any 2 m1 t1 a1 n1 c1 0 0 0 _ HTS1.out (HV.out.ext HB.out.f.pw.ext) (HMV.out.ext HB.out.f.pw.ext)); rw [hnb] at HNM; clear hnb; refine HNM.out.mono ?_
       rintro e w3 ⟨he, hE3⟩; replace HB := Z_ (HB.out.extend hE3); clear hE3 HNM; cases nb with
       | false =>
        obtain rfl : e = _ := he; simp only [Bool.false_eq_true, if_false]; go_wp2_with fail
        exact ⟨rfl, ppost_bad (by rw [← HT.out, then_no]) HB.out.f⟩
       | true =>
        obtain rfl : e = _ := he; rw [then_yes] at HT; simp only [if_true]; go_wp2_with fail
        refine (say_new HB.out.f.pw [sImport, t1, sSemi] _ rfl 3 rfl (by decide) (by have h9 := HLN2.out; simp; omega)).mono ?_
        rintro e w3 ⟨rfl, row3, hF3⟩; replace HB := Z_ (HB.out.call hF3).assoc; clear hF3; rw [then_say] at HT; go_wp2_with fail
        go_roundw
        case rel => exact ⟨j + 1, false, _, _, hlt, by go_num, rfl, HT, HB, Z_ (by have h9 := HLN2.out; simp; omega)⟩
        case measure => simp [intOf]; omega
     by_cases k3 : k1 = 3
     ·
      subst k3; clear k2; rw [if_neg (by decide), if_pos rfl, show (d || !decide ((3 : Int) = 2)) = true from by simp] at HT; have HIK := Z_ (HVX.out _ _ _ HB.out.f.pw (by have h9 := HLN2.out; simp; omega)); have hkc := HKB.out.cell; go_wp2_with fail
      clear hkc; refine HIK.out.mono ?_
      rintro e w3 ⟨⟨row3, hF3⟩, he⟩; replace HB := Z_ (HB.out.call hF3).assoc; clear hF3 HIK; obtain ⟨pb, pw⟩ := vp; cases pb with
      | false =>
       obtain rfl : e = _ := he; simp only [Bool.false_eq_true, if_false]; go_wp2_with fail
       exact ⟨rfl, ppost_bad (by rw [← HT.out, then_bad]) HB.out.f⟩
      | true =>
       obtain rfl : e = _ := he; rw [then_ok] at HT; simp only [if_true]
       try simp only at hvl
       go_wp2_with fail
       go_roundw
       case rel => exact ⟨j + 1, true, _, _, hlt, by go_num, rfl, HT, HB, Z_ (by have h9 := HLN2.out; simp; omega)⟩
       case measure => simp [intOf]; omega
     rw [if_neg k2, if_neg k3, show (d || !decide (k1 = 2)) = true from by simp [k2]] at HT; simp only [then_assoc] at HT; have b2 : (k1 == 2) = false := beq_eq_false_iff_ne.2 k2; have b3 : (k1 == 3) = false := beq_eq_false_iff_ne.2 k3; clear k2 k3; have hkc := HKB.out.cell; go_wp2_with fail
     clear hkc b2 b3; refine (must_any (decide (k1 = 4)) _).mono ?_
     rintro e w3 ⟨rfl, rfl⟩; cases hpc : decide (k1 = 4) with
     | false =>
      rw [hpc] at HT; simp only [Bool.false_eq_true, if_false]; go_wp2_with fail
      exact ⟨rfl, ppost_bad (by rw [← HT.out, then_no]) HB.out.f⟩
     | true =>
      rw [hpc, then_yes] at HT; simp only [if_true]; clear hpc; have HIK := Z_ (HPX.out _ _ _ HB.out.f.pw (by have h9 := HLN2.out; simp; omega)); have hkc := HKB.out.cell; go_wp2_with fail
      clear hkc; refine HIK.out.mono ?_
      rintro e w3 ⟨⟨row3, hF3⟩, he⟩; replace HB := Z_ (HB.out.call hF3).assoc; clear hF3 HIK; obtain ⟨pb, pw⟩ := pp; cases pb with
      | false =>
       obtain rfl : e = _ := he; simp only [Bool.false_eq_true, if_false]; go_wp2_with fail
       exact ⟨rfl, ppost_bad (by rw [← HT.out, then_bad]) HB.out.f⟩
      | true =>
       obtain rfl : e = _ := he; rw [then_ok] at HT; simp only [if_true]
       try simp only at hpl
       go_wp2_with fail
       go_roundw
       case rel => exact ⟨j + 1, true, _, _, hlt, by go_num, rfl, HT, HB, Z_ (by have h9 := HLN2.out; simp; omega)⟩
       case measure => simp [intOf]; omega
    ·obtain rfl : j = N := by omega
     have hjd : decide ((j : Int) < (j : Int)) = false := by simp
     have hdn : l.drop j = [] := List.drop_eq_nil_of_le (by rw [HN.out]; exact Nat.le_refl _); rw [hdn, declsP, then_say] at HT; replace HB := Z_ HB.out.nil; rw [List.append_assoc] at HB; go_wp2_with fail
     go_end0
     exact ppost_ok (by rw [← HT.out, then_nil]) HB.out.f
end prt
end Go.Proofs.YtpcihajmcejliabGreatDoor
namespace Go.Proofs.YtpcihajmcejliabGreatDoor
open Go.RowKit
namespace prt
open synw
theorem none_is (v : Value) (w : World) : (Instr.typeAssert (.iface 164 v) 20 164 true).run Tryz.prog w = .ok (.tuple #[v, .bool true]) w := by kernel_rfl
def CatchP (R F : Nat) (w : World) (e : Exit) (a : Act) (w' : World) : Prop := e = .normal ∧ a.defers = [] ∧ Blk w' R #[.string noText] 9 ∧ Blk w' F #[.int .i64 2] 26 ∧ Chg (fun i => i = R ∨ i = F) w w'
set_option maxRecDepth 100000 in
set_option maxHeartbeats 4000000 in
theorem catch_print (R F : Nat) (c0 f0 : Value) (w : World) (hR : Blk w R #[c0] 9) (hF : Blk w F #[f0] 26) (hne : R ≠ F) :
  CallsD Tryz.prog 93 #[.pointer (some ⟨R, 0, none⟩), .pointer (some ⟨F, 0, none⟩)] (.panicking noneV) w fun e u' w' =>
   e = .returned (.tuple #[]) ∧ u' = .panicking [{ v := .iface 164 (.agg #[]), recovered := true }] ∧ Blk w' R #[.string noText] 9 ∧ Blk w' F #[.int .i64 2] 26 ∧ Chg (fun i => i = R ∨ i = F) w w' := by
 have hta := none_is; have hRlt := hR.lt; have hFlt := hF.lt; obtain ⟨B, hB⟩ : ∃ B, w.heap.size = B := ⟨_, rfl⟩; have hR0 := hR.alloc (.cells #[] 164); have hF0 := hF.alloc (.cells #[] 164); have hX0 := (Chg.refl (fun i => i = R ∨ i = F) w).alloc (.cells #[] 164); refine callsD_of_wpS Tryz.func93 rfl fun c₀ cs hu => ?_
 unfold noneV at hu; apply wpS_seq
 apply wpS_region
 simp [wpOpsS, go_sem, recoverD, hu, Tryz.ntmps93, Exit.thenS]
 simp only [Array.replicate, List.replicate, List.append_toArray, List.setIfInBounds_toArray, List.set_cons_zero, List.set_cons_succ, List.cons_append, List.nil_append]; refine wpS_of_wp (Code.wp_mono (Q := CatchP R F w) ?_ ?_)
 ·rintro e a w1 ⟨rfl, hd, h1, h2, h3⟩
  exact ⟨hd, _, rfl, _, results_none rfl _ _ _, rfl, rfl, h1, h2, h3⟩
 clear hu; have HR0 := Z_ hR0; have HF0 := Z_ hF0; have HX0 := Z_ hX0; clear hR hF hR0 hF0 hX0; unfold CatchP; go_upto_region 7 with (fail)
 try rw [hB]
 generalize w.alloc (.cells #[] 164) = u0 at *; have hR1 := HR0.out.set 0 (.string noText); have hF1 := HF0.out.setOther (p := ⟨R, 0, none⟩) (fun e => hne e.symm) (.string noText); have hX1 := HX0.out.setCell (p := ⟨R, 0, none⟩) (fun _ => .inl rfl) (.string noText); have hR2 := hR1.setOther (p := ⟨F, 0, none⟩) hne (.int .i64 2); have hF2 := hF1.set 0 (.int .i64 2); have hX2 := hX1.setCell (p := ⟨F, 0, none⟩) (fun _ => .inr rfl) (.int .i64 2); have HH := Z_ (And.intro hR2 (And.intro hF2 hX2)); have a1 := HR0.out.cell; have a2 := HR0.out.frozen; have a3 := HR0.out.lt; have b1 := HF0.out.cell; have b2 := HF0.out.frozen; have b3 := HF0.out.lt; clear hR1 hF1 hX1 hR2 hF2 hX2; go_wp2_with (fail)
 exact HH.out
theorem idle_print (R F : Nat) (w : World) :
  CallsD Tryz.prog 93 #[.pointer (some ⟨R, 0, none⟩), .pointer (some ⟨F, 0, none⟩)] .returning w fun e u' w' => e = .returned (.tuple #[]) ∧ u' = .returning ∧ w' = w := by
 refine callsD_of_wpS Tryz.func93 rfl fun c₀ cs hu => ?_
 apply wpS_seq
 apply wpS_region
 simp [wpOpsS, go_sem, recoverD, hu, Tryz.ntmps93, Exit.thenS]
 simp only [Array.replicate, List.replicate, List.append_toArray, List.setIfInBounds_toArray, List.set_cons_zero, List.set_cons_succ, List.cons_append, List.nil_append]; refine wpS_of_wp (Code.wp_mono (Q := fun e a' w' => e = .normal ∧ a'.defers = [] ∧ w' = w) ?_ ?_)
 ·rintro e a w1 ⟨rfl, hd, rfl⟩
  exact ⟨hd, .returning, by cases c₀; simp_all, _, results_none rfl _ _ _, rfl, rfl, rfl⟩
 clear hu; go_wp2_with (fail)
end prt
end Go.Proofs.YtpcihajmcejliabGreatDoor
