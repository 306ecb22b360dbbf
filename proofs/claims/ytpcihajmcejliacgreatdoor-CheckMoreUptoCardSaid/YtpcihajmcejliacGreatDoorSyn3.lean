/- The walk of syntax.weigh. How large and how deep a node is, in plain Lean. What a module's declarations are, in plain Lean: its face, its imports, the first fault. The walk of the program's parser: expressions. The walk of the program's parser: unary. -/
import Derived.Test.YtpcihajmcejliacGreatDoorSynC
import Derived.Test.YtpcihajmcejliacGreatDoorLexNum
import Derived.Test.YtpcihajmcejliacGreatDoorName
namespace Go.Proofs.YtpcihajmcejliacGreatDoor
open Go.RowKit
mutual
/-- is a node neither too deep nor of too many? g: how many levels more may be; m: how many nodes there were -/
def weighF : Nat → Nd → Nat → Bool × Nat
 | 0, _, m => (false, m + 1)
 | g + 1, .mk _ _ _ l, m => if 500 < m + 1 then (false, m + 1) else weighL g l (m + 1)
def weighL : Nat → List Nd → Nat → Bool × Nat
 | _, [], m => (true, m)
 | g, x :: r, m => if (weighF g x m).1 = true then weighL g r (weighF g x m).2 else (false, (weighF g x m).2)
end
namespace synw
theorem weigh_le : ∀ g x m, (weighF g x m).2 ≤ max m 500 + 1 ∧ ((weighF g x m).1 = true → (weighF g x m).2 ≤ 500) := by
 intro g; induction g with
 | zero => intro x m; simp only [weighF]; exact ⟨by omega, fun h => by cases h⟩
 | succ g ih =>
  have hl : ∀ (l : List Nd) (m : Nat), m ≤ 500 → (weighL g l m).2 ≤ 501 ∧ ((weighL g l m).1 = true → (weighL g l m).2 ≤ 500) := by
   intro l; induction l with
   | nil => intro m hm; simp only [weighL]; exact ⟨by omega, fun _ => hm⟩
   | cons x r ih2 =>
    intro m hm; obtain ⟨h1, h2⟩ := ih x m; simp only [weighL]; split
    ·rename_i h; exact ih2 _ (h2 h)
    ·exact ⟨by simp only; omega, fun h => by cases h⟩
  intro x m; cases x with
  | mk k t n l =>
   simp only [weighF]; split
   ·exact ⟨by simp only; omega, fun h => by cases h⟩
   ·obtain ⟨h1, h2⟩ := hl l (m + 1) (by omega)
    exact ⟨by omega, h2⟩
theorem weighL_drop {g m k : Nat} {l : List Nd} (h : k < l.length) : weighL g (l.drop k) m = if (weighF g l[k] m).1 = true then weighL g (l.drop (k + 1)) (weighF g l[k] m).2 else (false, (weighF g l[k] m).2) := by
 rw [List.drop_eq_getElem_cons h]; simp only [weighL]
set_option maxRecDepth 100000 in
set_option maxHeartbeats 4000000 in
theorem weigh_any (g : Nat) : ∀ (x : Nd) (v : Value) (w : World) (M m : Nat) (d : Int) (H : Nat → Bool), NdAt (hide H w) x v → H M = true → Blk w M #[.int .i64 (m : Nat)] 3 → m ≤ 500 → d = 17 - (g : Int) → g ≤ 17 →
  Calls Tryz.prog 49 #[v, .int .i64 d, .pointer (some ⟨M, 0, none⟩)] w fun e w' => e = .returned (.bool (weighF g x m).1) ∧ Chg (fun i => i = M) w w' ∧ Blk w' M #[.int .i64 ((weighF g x m).2 : Nat)] 3 := by
 induction g with
 | zero =>
  intro x v w M m d H hx hH hM hm hd hg; obtain ⟨k, t, n, a, c, cc, rfl⟩ := nd_form hx; have hM1 := hM.alloc (.cells #[.int .i64 k, .string t, .int .i64 n, .slice a c cc] 24); have hc := hM1.cell 0; have hf := hM1.frozen 0; have hl := hM1.lt; simp at hc
  have hw1 : IntKind.i64.wrap ((m : Int) + 1) = ((m + 1 : Nat) : Int) := by rw [wrap_small _ (by omega) (by omega)]; rfl
  have hd2 : d = 17 := by omega
  subst hd2; have HM := Z_ hM1; have HC := Z_ ((Chg.refl (fun i => i = M) w).alloc (.cells #[.int .i64 k, .string t, .int .i64 n, .slice a c cc] 24)); simp only [weighF]; clear hM hM1 hx hd hg; go_enter Tryz.func49, Tryz.ntmps49
  go_wp2_with fail
  go_ret
  exact ⟨rfl, chg_set HC.out 0 _, HM.out.set 0 _⟩
 | succ g ih =>
  intro x v w M m d H hx hH hM hm hd hg; cases x with
  | mk k t n l =>
   rw [ndAt_mk] at hx; obtain ⟨a, cc, rfl, hx1, hx2, hx3, hx4⟩ := hx; obtain ⟨N, hN⟩ : ∃ N, l.length = N := ⟨_, rfl⟩; have hNm : N ≤ 9223372036854775807 := by unfold maxLen at hx2; omega
   have HN := Z_ hN; rw [hN]; have hM1 := hM.alloc (.cells #[.int .i64 k, .string t, .int .i64 n, .slice a N cc] 24); have hc := hM1.cell 0; have hf := hM1.frozen 0; have hlM := hM1.lt; simp at hc
   obtain ⟨m1, hm1e⟩ : ∃ q, m + 1 = q := ⟨_, rfl⟩; have hw1 : IntKind.i64.wrap ((m : Int) + 1) = (m1 : Int) := by rw [wrap_small _ (by omega) (by omega)]; omega
   have hdd : ¬ (16 < d) := by omega
   have hdw : IntKind.i64.wrap (d + 1) = 17 - (g : Int) := by rw [wrap_small _ (by omega) (by omega)]; omega
   have hdw2 : wrap64 (d + 1) = 17 - (g : Int) := by unfold wrap64; omega
   have hMw := hM.lt; have hcm : (w.setCell ⟨M, 0, none⟩ (.int .i64 (m1 : Nat))).cell? ⟨M, 0, none⟩ = some (.int .i64 (m1 : Nat)) := (hM.set 0 (.int .i64 (m1 : Nat))).cell 0; have hdd2 : decide (16 < d) = false := by simpa using hdd
   clear hd; obtain ⟨K, hK⟩ : ∃ K, w.heap.size = K := ⟨_, rfl⟩; rw [hK] at hMw; obtain ⟨R, hR⟩ : ∃ R, weighF (g + 1) (.mk k t n l) m = R := ⟨_, rfl⟩; rw [hR]; simp only [weighF] at hR; rw [hm1e] at hR; have HR := Z_ hR; have hM2 := (hM.set 0 (.int .i64 (m1 : Nat))).alloc (.cells #[.int .i64 k, .string t, .int .i64 n, .slice a N cc] 24); have hK2 := Blk.made (w.setCell ⟨M, 0, none⟩ (.int .i64 (m1 : Nat))) #[.int .i64 k, .string t, .int .i64 n, .slice a N cc] 24; rw [World.size_setCell, hK] at hK2; have hX := (chg_set (Chg.refl (fun i => i = M) w) 0 (.int .i64 (m1 : Nat))).alloc (.cells #[.int .i64 k, .string t, .int .i64 n, .slice a N cc] 24); have hK3 := hK2.cell; have HM2 := Z_ hM2; have HX := Z_ hX; have HI := Z_ (fun (u : World) (hC : Chg (fun i => i = M) w u) => hx4.keeps (keeps_chg hC fun i _ e => by rw [e]; exact hH) fun b o y => ndIn_keeps (keeps_chg hC fun i _ e => by rw [e]; exact hH) b o y)
   clear hM hM1 hR hM2 hX hx4 hK2 hN; by_cases hb : 500 < m1
   ·have HR2 := Z_ (show R = (false, m1) by have := HR.out; rw [if_pos hb] at this; exact this.symm)
    have hb2 : (500 : Int) < (m1 : Int) := by omega
    clear HR; go_enter Tryz.func49, Tryz.ntmps49
    go_wp2_with fail
    go_ret
    rw [HR2.out]; exact ⟨rfl, HX.out, HM2.out⟩
   ·have HR2 := Z_ (show weighL g l m1 = R by have := HR.out; rw [if_neg hb] at this; exact this)
    have hb2 : ¬ ((500 : Int) < (m1 : Int)) := by omega
    have hm1 : m1 ≤ 500 := by omega
    clear HR hb hm1e; go_enter Tryz.func49, Tryz.ntmps49
    go_wp2_with fail
    have HI2 := Z_ (HI.out _ HX.out); clear hc hf hlM hw1 hb2 hK3; have hX9 := HX.out; have hM9 := HM2.out; generalize (w.setCell ⟨M, 0, none⟩ (.int .i64 (m1 : Nat))).alloc (.cells #[.int .i64 k, .string t, .int .i64 n, .slice a N cc] 24) = w1 at *; go_loopw [25] (fun i wr => ∃ q mm : Nat, q ≤ N ∧ i = .int .i64 q ∧ mm ≤ 500 ∧ Hid (weighL g (l.drop q) mm = R) ∧ Chg (fun i => i = M) w wr ∧ Blk wr M #[.int .i64 (mm : Nat)] 3) (fun i _ => N - (intOf i).toNat)
    case atStart => exact ⟨0, m1, Nat.zero_le _, rfl, hm1, HR2, hX9, hM9⟩
    case round =>
     obtain ⟨q, mm, hq, rfl, hmm, hr, hC, hB⟩ := hrel; by_cases hlt : q < N
     ·have hql : q < l.length := by rw [HN.out]; exact hlt
      have hqi : (q : Int) < (N : Int) := by omega
      obtain ⟨b, o, rfl, hb, u, hu, hus, hcl⟩ := HI.out wr hC q hql; obtain ⟨k1, t1, n1, a1, l1, c1, rfl⟩ := nd_form hu; have q0 : wr.cell? ⟨b, o + q * 4, none⟩ = some (.int .i64 k1) := (keeps_bare H wr).2 _ _ ((hcl 0 (by decide)).trans rfl); have q1 : wr.cell? ⟨b, o + q * 4 + 1, none⟩ = some (.string t1) := (keeps_bare H wr).2 _ _ ((hcl 1 (by decide)).trans rfl); have q2 : wr.cell? ⟨b, o + q * 4 + 2, none⟩ = some (.int .i64 n1) := (keeps_bare H wr).2 _ _ ((hcl 2 (by decide)).trans rfl); have q3 : wr.cell? ⟨b, o + q * 4 + 3, none⟩ = some (.slice a1 l1 c1) := (keeps_bare H wr).2 _ _ ((hcl 3 (by decide)).trans rfl); have hE := (Chg.refl (fun _ => False) wr).alloc (.cells #[.int .i64 k1, .string t1, .int .i64 n1, .slice a1 l1 c1] 24); have HP := Z_ ((Blk.made wr #[.int .i64 k1, .string t1, .int .i64 n1, .slice a1 l1 c1] 24)); have hPc := HP.out.cell; have HIH := Z_ (ih l[q] _ (wr.alloc (.cells #[.int .i64 k1, .string t1, .int .i64 n1, .slice a1 l1 c1] 24)) M mm (17 - (g : Int)) H (ndAt_keeps (keeps_chg hE fun _ _ h => h.elim) _ _ hu) hH (hB.ext hE) hmm rfl (by omega))
      have hr2 := hr.out; rw [weighL_drop hql] at hr2; have hle := weigh_le g l[q] mm; generalize weighF g l[q] mm = Q at *; obtain ⟨qb, qm⟩ := Q; simp only at hr2 hle HIH; have HR3 := Z_ hr2; have HLE := Z_ hle; have HC3 := Z_ (hC.ext hE); clear hr hr2 hcl hu hE hC hB hle; go_wp2_with fail
      refine HIH.out.mono ?_
      rintro e w5 ⟨rfl, hC5, hB5⟩; have HC5 := Z_ (HC3.out.then hC5); have HB5 := Z_ hB5; clear hC5 hB5; cases qb with
      | true =>
       have HR4 := Z_ (show weighL g (l.drop (q + 1)) qm = R by have := HR3.out; simpa using this); have hqm := HLE.out.2 rfl; clear HR3 HLE; go_wp2_with fail
       go_roundw
       case rel => exact ⟨q + 1, qm, by omega, by go_num, hqm, HR4, HC5.out, HB5.out⟩
       case measure => simp [intOf]; omega
      | false =>
       have HR4 := Z_ (show R = (false, qm) by have := HR3.out; simpa using this.symm); clear HR3 HLE; go_wp2_with fail
       go_ret
       rw [HR4.out]; exact ⟨rfl, HC5.out, HB5.out⟩
     ·obtain rfl : q = N := by omega
      have hT := Z_ (show R = (true, mm) by have := hr.out; rw [List.drop_of_length_le (by rw [HN.out]; exact Nat.le_refl _)] at this; simp only [weighL] at this; exact this.symm); clear hr; go_wp2_with fail
      go_ret
      rw [hT.out]; exact ⟨rfl, hC, hB⟩
end synw
end Go.Proofs.YtpcihajmcejliacGreatDoor
namespace Go.Proofs.YtpcihajmcejliacGreatDoor
open Go.RowKit
mutual
def szF : Nd → Nat
 | .mk _ _ _ l => szL l + 1
def szL : List Nd → Nat
 | [] => 0
 | x :: r => szF x + szL r
end
mutual
def dpF : Nd → Nat
 | .mk _ _ _ l => dpL l + 1
def dpL : List Nd → Nat
 | [] => 0
 | x :: r => max (dpF x) (dpL r)
end
theorem sz_pos (x : Nd) : 1 ≤ szF x := by cases x; simp only [szF]; omega
theorem dp_pos (x : Nd) : 1 ≤ dpF x := by cases x; simp only [dpF]; omega
theorem weigh_law : ∀ g x m, m ≤ 500 → ((weighF g x m).1 = true ↔ dpF x ≤ g ∧ m + szF x ≤ 500) ∧ ((weighF g x m).1 = true → (weighF g x m).2 = m + szF x) := by
 intro g; induction g with
 | zero =>
  intro x m hm; have := dp_pos x; simp only [weighF]; exact ⟨⟨fun h => (by cases h), fun h => by omega⟩, fun h => by cases h⟩
 | succ g ih =>
  have hl : ∀ (l : List Nd) (m : Nat), m ≤ 500 → ((weighL g l m).1 = true ↔ dpL l ≤ g ∧ m + szL l ≤ 500) ∧ ((weighL g l m).1 = true → (weighL g l m).2 = m + szL l) := by
   intro l; induction l with
   | nil => intro m hm; simp only [weighL, dpL, szL]; exact ⟨⟨fun _ => ⟨by omega, by omega⟩, fun _ => trivial⟩, fun _ => rfl⟩
   | cons x r ih2 =>
    intro m hm; obtain ⟨h1, h2⟩ := ih x m hm; simp only [weighL, dpL, szL]; by_cases hx : (weighF g x m).1 = true
    ·rw [if_pos hx]
     have e := h2 hx; obtain ⟨h3, h4⟩ := h1.1 hx; rw [e]; obtain ⟨h5, h6⟩ := ih2 (m + szF x) h4; refine ⟨h5.trans ⟨fun h => ⟨by omega, by omega⟩, fun h => ⟨by omega, by omega⟩⟩, fun h => by rw [h6 h]; omega⟩
    ·rw [if_neg hx]
     refine ⟨⟨fun h => (by cases h), fun h => absurd (h1.2 ⟨by omega, by omega⟩) hx⟩, fun h => by cases h⟩
  intro x m hm; cases x with
  | mk k t n l =>
   simp only [weighF, dpF, szF]; by_cases h : 500 < m + 1
   ·rw [if_pos h]
    exact ⟨⟨fun h => (by cases h), fun h => by omega⟩, fun h => by cases h⟩
   ·rw [if_neg h]
    obtain ⟨h1, h2⟩ := hl l (m + 1) (by omega); exact ⟨h1.trans ⟨fun h => ⟨by omega, by omega⟩, fun h => ⟨by omega, by omega⟩⟩, fun h => by rw [h2 h]; omega⟩
theorem szL_drop {l : List Nd} {k : Nat} (h : k < l.length) : szL (l.drop k) = szF l[k] + szL (l.drop (k + 1)) := by
 rw [List.drop_eq_getElem_cons h]; simp only [szL]
end Go.Proofs.YtpcihajmcejliacGreatDoor
namespace Go.Proofs.YtpcihajmcejliacGreatDoor
open Go.RowKit
def Nd.kd : Nd → Int
 | .mk k _ _ _ => k
def Nd.tx : Nd → ByteArray
 | .mk _ t _ _ => t
def Nd.nm : Nd → Int
 | .mk _ _ m _ => m
structure ImpOk (x : Nd) : Prop where
 kd : x.kd = 2
 nm : x.nm = 0
 kids : x.kids = []
structure VarOk (x : Nd) : Prop where
 kd : x.kd = 3
 nm : 0 ≤ x.nm ∧ x.nm ≤ 3
 kids : x.kids = [] ∨ ∃ y, x.kids = [y] ∧ 0 ≤ y.nm ∧ y.nm < 9223372036854775808
structure ProcOk (x : Nd) : Prop where
 kd : x.kd = 4
 nm : 0 ≤ x.nm ∧ x.nm ≤ 11
 kids : ∃ ps b, x.kids = ps ++ [b] ∧ ∀ p ∈ ps, 0 ≤ p.nm ∧ p.nm ≤ 1
def DeclOk (x : Nd) : Prop := ImpOk x ∨ VarOk x ∨ ProcOk x
def varOf (x : Nd) : FVar := ⟨x.tx, decide (2 ≤ x.nm % 4), x.nm % 2, match x.kids with
 | [] => 0
 | y :: _ => y.nm⟩
def procOf (x : Nd) : FProc := ⟨x.tx, decide (2 ≤ x.nm % 4), x.kids.dropLast.map Nd.nm, x.nm % 2, decide (4 ≤ x.nm), x.nm / 8⟩
def isImp (x : Nd) : Bool := decide (x.kd = 2)
def isVar (x : Nd) : Bool := decide (x.kd = 3)
def isProc (x : Nd) : Bool := decide (x.kd = 4)
def impsF (l : List Nd) : List ByteArray := (l.filter isImp).map Nd.tx
def varsF (l : List Nd) : List FVar := (l.filter isVar).map varOf
def procsF (l : List Nd) : List FProc := (l.filter isProc).map procOf
def Nd.key (x : Nd) : List UInt8 := x.tx.data.toList
def parF (p : Nat) : Nat → List (List UInt8) → List Nd → Int × Nat
 | _, _, [] => (0, 0)
 | j, seen, x :: r => if seen.contains x.key = true then (5, p + 1 + j) else parF p (j + 1) (seen ++ [x.key]) r
def declF (x : Nd) (p : Nat) : Int × Nat :=
 if x.kd = 3 then match x.kids with
  | [] => (0, 0)
  | y :: _ => if 1 ≤ y.nm ∧ y.nm ≤ 64 then (0, 0) else (6, p)
 else if 5 < x.kids.dropLast.length then (1, p) else parF p 0 [] x.kids.dropLast
def lookF (modn : ByteArray) : List Nd → List (List UInt8) → List (List UInt8) → Nat → Int × Nat
 | [], _, _, _ => (0, 0)
 | x :: r, imps, names, p =>
  if x.kd = 2 then (if imps.contains x.key = true then (5, p) else if x.tx = modn then (5, p) else if 5 ≤ imps.length then (1, p) else lookF modn r (imps ++ [x.key]) names (p + szF x))
  else if names.contains x.key = true then (5, p) else if 20 ≤ names.length then (1, p) else if (declF x p).1 = 0 then lookF modn r imps (names ++ [x.key]) (p + szF x) else declF x p
namespace ofm
open synm
theorem lab_ok {l r : List Tk} {b : Int} (h : pLabel l = .got b r) : 0 ≤ b ∧ b ≤ 1 := by
 unfold pLabel at h; split at h
 ·injection h with h1 _; omega
 ·obtain ⟨_, _, _, h2⟩ := got_bind h
  injection h2 with h1 _; omega
theorem params_ok : ∀ (n : Nat) (s : ByteArray) (pub : Int) (acc : List Nd) (l : List Tk) (x : Nd) (r : List Tk), (∀ p ∈ acc, 0 ≤ p.nm ∧ p.nm ≤ 1) → 0 ≤ pub → pub ≤ 2 → prs n (.params s pub acc) l = .got x r → ProcOk x := by
 intro n; induction n with
 | zero => intro s pub acc l x r _ _ _ h; cases h
 | succ n ih =>
  intro s pub acc l x r hacc h0 h2 h
  have hdone : ∀ (acc : List Nd) (l : List Tk), (∀ p ∈ acc, 0 ≤ p.nm ∧ p.nm ≤ 1) → ((pNeed sClose l).bind fun _ l => (pLabel l).bind fun b l =>
    if isB l [sGives] = true then (pLabel l.tail).bind fun g l => (prs n .block l).bind fun x l => .got (.mk 4 s (pub + b + (4 + 4 * g)) (acc ++ [x])) l
    else (prs n .block l).bind fun x l => .got (.mk 4 s (pub + b) (acc ++ [x])) l) = Out.got x r → ProcOk x := by
   intro acc l hacc h; obtain ⟨_, l1, _, h⟩ := got_bind h; obtain ⟨b, l2, hb, h⟩ := got_bind h; have hb := lab_ok hb; split at h
   ·obtain ⟨g, l3, hg, h⟩ := got_bind h
    have hg := lab_ok hg; obtain ⟨y, l4, _, h⟩ := got_bind h; injection h with h1 _
    subst h1; exact ⟨rfl, ⟨by show 0 ≤ pub + b + (4 + 4 * g); omega, by show pub + b + (4 + 4 * g) ≤ 11; omega⟩, acc, y, rfl, hacc⟩
   ·obtain ⟨y, l4, _, h⟩ := got_bind h
    injection h with h1 _
    subst h1; exact ⟨rfl, ⟨by show 0 ≤ pub + b; omega, by show pub + b ≤ 11; omega⟩, acc, y, rfl, hacc⟩
  simp only [prs] at h; split at h
  ·exact hdone _ _ hacc h
  ·obtain ⟨b, l1, hb, h⟩ := got_bind h
   obtain ⟨p, l2, _, h⟩ := got_bind h; have hb := lab_ok hb
   have hacc2 : ∀ q ∈ acc ++ [Nd.mk 5 p b []], 0 ≤ q.nm ∧ q.nm ≤ 1 := by
    intro q hq; rw [List.mem_append, List.mem_singleton] at hq; rcases hq with hq | rfl
    ·exact hacc q hq
    ·exact hb
   split at h
   ·exact ih _ _ _ _ _ _ hacc2 h0 h2 h
   ·exact hdone _ _ hacc2 h
theorem tks_tail {l : List Tk} (h : ∀ t ∈ l, TkOk t) : ∀ t ∈ l.tail, TkOk t := fun t ht => h t (List.mem_of_mem_tail ht)
theorem need_sub {s : ByteArray} {l r : List Tk} {u : Unit} (h : pNeed s l = .got u r) (ho : ∀ t ∈ l, TkOk t) : ∀ t ∈ r, TkOk t := by
 unfold pNeed at h; split at h
 ·injection h with _ h2
  subst h2; exact tks_tail ho
 ·cases h
theorem name_sub {s : ByteArray} {l r : List Tk} (h : pName l = .got s r) (ho : ∀ t ∈ l, TkOk t) : ∀ t ∈ r, TkOk t := by
 cases l with
 | nil => cases h
 | cons t q =>
  simp only [pName] at h; split at h
  ·injection h with _ h2
   subst h2; exact tks_tail ho
  ·cases h
theorem num_ok {x : Nd} {l r : List Tk} (h : pNumber l = .got x r) : ∃ t, t ∈ l.head? ∧ t.kind = 2 ∧ x = .mk 15 noText (valOf t.text) [] := by
 cases l with
 | nil => cases h
 | cons t q =>
  simp only [pNumber] at h; split at h
  ·rename_i hk
   injection h with h1 _
   exact ⟨t, rfl, hk, h1.symm⟩
  ·cases h
theorem lab_sub {b : Int} {l r : List Tk} (h : pLabel l = .got b r) (ho : ∀ t ∈ l, TkOk t) : ∀ t ∈ r, TkOk t := by
 unfold pLabel at h; split at h
 ·injection h with _ h2
  subst h2; exact tks_tail ho
 ·obtain ⟨_, l2, h1, h2⟩ := got_bind h
  have := need_sub h1 ho; injection h2 with _ h2
  subst h2; exact this
theorem sub_suf {l r : List Tk} (h : r <:+ l) (ho : ∀ t ∈ l, TkOk t) : ∀ t ∈ r, TkOk t := fun t ht => ho t (h.subset ht)
theorem tail_suf (l : List Tk) : l.tail <:+ l := List.tail_suffix l
theorem need_suf {s : ByteArray} {l r : List Tk} {u : Unit} (h : pNeed s l = .got u r) : r <:+ l := by
 unfold pNeed at h; split at h
 ·injection h with _ h2
  subst h2; exact tail_suf l
 ·cases h
theorem name_suf {s : ByteArray} {l r : List Tk} (h : pName l = .got s r) : r <:+ l := by
 cases l with
 | nil => cases h
 | cons t q =>
  simp only [pName] at h; split at h
  ·injection h with _ h2
   subst h2; exact tail_suf (t :: q)
  ·cases h
theorem num_suf {x : Nd} {l r : List Tk} (h : pNumber l = .got x r) : r <:+ l := by
 cases l with
 | nil => cases h
 | cons t q =>
  simp only [pNumber] at h; split at h
  ·injection h with _ h2
   subst h2; exact tail_suf (t :: q)
  ·cases h
theorem lab_suf {b : Int} {l r : List Tk} (h : pLabel l = .got b r) : r <:+ l := by
 unfold pLabel at h; split at h
 ·injection h with _ h2
  subst h2; exact tail_suf l
 ·obtain ⟨_, l2, h1, h2⟩ := got_bind h
  have := need_suf h1; injection h2 with _ h2
  subst h2; exact this
theorem whole_suf {s : ByteArray} {l r : List Tk} (h : pWhole l = .got s r) : r <:+ l := by
 unfold pWhole at h; obtain ⟨y, q, h1, h2⟩ := got_bind h; have a1 := name_suf h1; split at h2
 ·obtain ⟨z, q2, h3, h4⟩ := got_bind h2
  have a2 := name_suf h3; injection h4 with _ h5
  subst h5; exact a2.trans ((tail_suf q).trans a1)
 ·injection h2 with _ h5
  subst h5; exact a1
theorem semi_suf {l r : List Tk} {x y : Nd} (h : semi x l = .got y r) : r <:+ l := by
 unfold semi at h; obtain ⟨z, q2, h3, h4⟩ := got_bind h; have := need_suf h3; injection h4 with _ h5
 subst h5; exact this
def Suf {α : Type} (l : List Tk) (o : Out α) : Prop := ∀ x r, o = .got x r → r <:+ l
theorem Suf.mono {α : Type} {l l1 : List Tk} {o : Out α} (h : Suf l1 o) (h1 : l1 <:+ l) : Suf l o := fun x r e => (h x r e).trans h1
theorem tail_in {r l : List Tk} (h : r <:+ l) : r.tail <:+ l := (tail_suf r).trans h
theorem suf_got {α : Type} {l r : List Tk} (x : α) (h : r <:+ l) : Suf l (.got x r) := fun y q e => by
 injection e with _ e2
 subst e2; exact h
theorem suf_bind {α β : Type} {l : List Tk} {o : Out α} {f : α → List Tk → Out β} (h : Suf l o) (hf : ∀ y l1, l1 <:+ l → Suf l (f y l1)) : Suf l (o.bind f) := fun x r e => by
 obtain ⟨y, q, h1, h2⟩ := got_bind e; exact hf y q (h y q h1) x r h2
theorem suf_ite {α : Type} {l : List Tk} {p : Prop} [Decidable p] {a b : Out α} (ha : Suf l a) (hb : Suf l b) : Suf l (if p then a else b) := by
 split
 ·exact ha
 ·exact hb
theorem suf_need {l l1 : List Tk} {s : ByteArray} (h : l1 <:+ l) : Suf l (pNeed s l1) := fun _ _ e => (need_suf e).trans h
theorem suf_name {l l1 : List Tk} (h : l1 <:+ l) : Suf l (pName l1) := fun _ _ e => (name_suf e).trans h
theorem suf_num {l l1 : List Tk} (h : l1 <:+ l) : Suf l (pNumber l1) := fun _ _ e => (num_suf e).trans h
theorem suf_lab {l l1 : List Tk} (h : l1 <:+ l) : Suf l (pLabel l1) := fun _ _ e => (lab_suf e).trans h
theorem suf_whole {l l1 : List Tk} (h : l1 <:+ l) : Suf l (pWhole l1) := fun _ _ e => (whole_suf e).trans h
theorem suf_semi {l l1 : List Tk} {x : Nd} (h : l1 <:+ l) : Suf l (semi x l1) := fun _ _ e => (semi_suf e).trans h
theorem prs_suf_all (n : Nat) : ∀ (X : NT) (l : List Tk), Suf l (prs n X l) := by
 induction n with
 | zero => intro X l x r h; cases X <;> cases h
 | succ n ih =>
  intro X l; have h0 : l <:+ l := List.suffix_refl l; cases X <;> simp only [prs]
  case decl =>
   cases isB l [sPub]
   ·simp only [Bool.false_eq_true, ↓reduceIte]
    repeat' first
     | exact suf_need (by assumption)
     | exact suf_name (by assumption)
     | exact suf_num (tail_in (by assumption))
     | exact suf_lab (by assumption)
     | exact suf_semi (by assumption)
     | exact (ih _ _).mono (tail_in (by assumption))
     | refine suf_ite ?_ ?_
     | refine suf_bind ?_ fun _ _ _ => ?_
   ·simp only [↓reduceIte]
    have h1 := tail_in h0
    repeat' first
     | exact suf_need (by assumption)
     | exact suf_name (by assumption)
     | exact suf_num (tail_in (by assumption))
     | exact suf_lab (by assumption)
     | exact suf_semi (by assumption)
     | exact (ih _ _).mono (tail_in (by assumption))
     | refine suf_ite ?_ ?_
     | refine suf_bind ?_ fun _ _ _ => ?_
  all_goals repeat' first
   | exact suf_got _ (by assumption)
   | exact suf_got _ (tail_in (by assumption))
   | exact suf_need (by assumption)
   | exact suf_name (by assumption)
   | exact suf_name (tail_in (by assumption))
   | exact suf_num (by assumption)
   | exact suf_num (tail_in (by assumption))
   | exact suf_lab (by assumption)
   | exact suf_lab (tail_in (by assumption))
   | exact suf_whole (by assumption)
   | exact suf_whole (tail_in (by assumption))
   | exact suf_semi (by assumption)
   | exact (ih _ _).mono (by assumption)
   | exact (ih _ _).mono (tail_in (by assumption))
   | refine suf_ite ?_ ?_
   | refine suf_bind ?_ fun _ _ _ => ?_
theorem prs_suf (n : Nat) (X : NT) (l : List Tk) (x : Nd) (r : List Tk) (h : prs n X l = .got x r) : r <:+ l := prs_suf_all n X l x r h
theorem prs_sub (n : Nat) (X : NT) (l : List Tk) (x : Nd) (r : List Tk) (ho : ∀ t ∈ l, TkOk t) (h : prs n X l = .got x r) : ∀ t ∈ r, TkOk t := sub_suf (prs_suf n X l x r h) ho
theorem decl_ok (n : Nat) (l : List Tk) (x : Nd) (r : List Tk) (ho : ∀ t ∈ l, TkOk t) (h : prs n .decl l = .got x r) : DeclOk x := by
 cases n with
 | zero => cases h
 | succ n =>
  simp only [prs] at h; generalize hl : (if isB l [sPub] = true then l.tail else l) = l1 at h; generalize hp : (if isB l [sPub] = true then (2 : Int) else 0) = pub at h; have hp2 : 0 ≤ pub ∧ pub ≤ 2 := by rw [← hp]; split <;> omega
  have ho1 : ∀ t ∈ l1, TkOk t := by rw [← hl]; split; exact tks_tail ho; exact ho
  split at h
  ·cases n with
   | zero => cases h
   | succ n =>
    simp only [prs] at h; obtain ⟨s, l2, _, h⟩ := got_bind h; obtain ⟨_, l3, _, h⟩ := got_bind h; exact .inr (.inr (params_ok _ _ _ _ _ _ _ (fun p hp => by cases hp) hp2.1 hp2.2 h))
  ·obtain ⟨b, l2, hb, h⟩ := got_bind h
   have hb2 := lab_ok hb; have ho2 := lab_sub hb ho1; obtain ⟨s, l3, hs, h⟩ := got_bind h; have ho3 := name_sub hs ho2
   have hsemi : ∀ (y : Nd) (q : List Tk), semi y q = Out.got x r → x = y := by
    intro y q h; obtain ⟨_, l5, _, h⟩ := got_bind h; injection h with h1 _
    exact h1.symm
   split at h
   ·obtain ⟨y, l4, hy, h⟩ := got_bind h
    obtain ⟨t, ht, hk, rfl⟩ := num_ok hy; obtain ⟨_, l5, _, h⟩ := got_bind h; have e := hsemi _ _ h; subst e; have hv := (tks_tail ho3 t (List.mem_of_mem_head? ht)).num hk; refine .inr (.inl ⟨rfl, ⟨by show 0 ≤ b + pub; omega, by show b + pub ≤ 3; omega⟩, .inr ⟨_, rfl, by show (0 : Int) ≤ valOf t.text; unfold valOf; omega, by show valOf t.text < _; unfold valOf; omega⟩⟩)
   ·have e := hsemi _ _ h
    subst e; exact .inr (.inl ⟨rfl, ⟨by show 0 ≤ b + pub; omega, by show b + pub ≤ 3; omega⟩, .inl rfl⟩)
theorem decls_ok : ∀ (n : Nat) (s : ByteArray) (acc : List Nd) (l : List Tk) (x : Nd) (r : List Tk), (∀ t ∈ l, TkOk t) → (∀ p ∈ acc, DeclOk p) → prs n (.decls s acc) l = .got x r → ∃ kids, x = .mk 1 s 0 kids ∧ ∀ p ∈ kids, DeclOk p := by
 intro n; induction n with
 | zero => intro s acc l x r _ _ h; cases h
 | succ n ih =>
  intro s acc l x r ho hacc h; simp only [prs] at h; split at h
  ·injection h with h1 _
   exact ⟨acc, h1.symm, hacc⟩
  ·obtain ⟨y, l2, hy, h⟩ := got_bind h
   refine ih s (acc ++ [y]) l2 x r ?_ ?_ h
   ·exact prs_sub _ _ _ _ _ ho hy
   ·intro q hq
    rw [List.mem_append, List.mem_singleton] at hq; rcases hq with hq | rfl
    ·exact hacc q hq
    ·exact decl_ok _ _ _ _ ho hy
theorem imports_ok : ∀ (n : Nat) (s : ByteArray) (acc : List Nd) (l : List Tk) (x : Nd) (r : List Tk), (∀ t ∈ l, TkOk t) → (∀ p ∈ acc, DeclOk p) → prs n (.imports s acc) l = .got x r → ∃ kids, x = .mk 1 s 0 kids ∧ ∀ p ∈ kids, DeclOk p := by
 intro n; induction n with
 | zero => intro s acc l x r _ _ h; cases h
 | succ n ih =>
  intro s acc l x r ho hacc h; simp only [prs] at h; split at h
  ·obtain ⟨y, l2, hy, h⟩ := got_bind h
   have ho2 := name_sub hy (tks_tail ho); obtain ⟨_, l3, h3, h⟩ := got_bind h; have ho3 := need_sub h3 ho2; refine ih s (acc ++ [.mk 2 y 0 []]) l3 x r ho3 ?_ h
   intro q hq; rw [List.mem_append, List.mem_singleton] at hq; rcases hq with hq | rfl
   ·exact hacc q hq
   ·exact .inl ⟨rfl, rfl, rfl⟩
  ·exact decls_ok _ _ _ _ _ _ ho hacc h
theorem module_ok (n : Nat) (l : List Tk) (x : Nd) (r : List Tk) (ho : ∀ t ∈ l, TkOk t) (h : prs n .module l = .got x r) : ∃ s kids, x = .mk 1 s 0 kids ∧ ∀ p ∈ kids, DeclOk p := by
 cases n with
 | zero => cases h
 | succ n =>
  simp only [prs] at h; obtain ⟨_, l1, h1, h⟩ := got_bind h; have ho1 := need_sub h1 ho; obtain ⟨s, l2, h2, h⟩ := got_bind h; have ho2 := name_sub h2 ho1; obtain ⟨_, l3, h3, h⟩ := got_bind h; obtain ⟨kids, h4, h5⟩ := imports_ok _ _ _ _ _ _ (need_sub h3 ho2) (fun p hp => by cases hp) h; exact ⟨s, kids, h4, h5⟩
end ofm
end Go.Proofs.YtpcihajmcejliacGreatDoor
namespace Go.Proofs.YtpcihajmcejliacGreatDoor
open Go.RowKit
namespace synw
set_option maxRecDepth 100000 in
set_option maxHeartbeats 4000000 in
theorem expr_any {n : Nat} (ih : ∀ m, m ≤ n → Good m) {W w : World} {S E : Nat} {l : List Tk} (h : PrAt W w S E l) (hm : MaxVar W) (hne : prs (n + 1) (.expr) l ≠ .out) :
  Calls Tryz.prog 331 #[.pointer (some ⟨S, 0, none⟩)] w (Pst (VN w.heap.size) W w S E (prs (n + 1) (.expr) l)) := by
 obtain ⟨T, hT⟩ : ∃ T, prs (n + 1) (.expr) l = T := ⟨_, rfl⟩; rw [hT] at hne ⊢; simp only [prs] at hT; have HT := Z_ hT; have HNE := Z_ hne; have HM := Z_ hm; have HAT : Hid (At W w (w.alloc (.cells #[.int .i64 0, .string ⟨#[]⟩, .int .i64 0, .slice none 0 0] 24)) S E w.heap.size l) := Z_ (At.start h); obtain ⟨A, hA⟩ : ∃ A, w.heap.size = A := ⟨_, rfl⟩; rw [hA] at HAT; have hSA : S < A := by have := h.lt; omega
 clear h hm hne hT; go_enter Tryz.func331, Tryz.ntmps331
 go_upto_region 1 with (fail)
 generalize w.alloc (.cells #[.int .i64 0, .string ⟨#[]⟩, .int .i64 0, .slice none 0 0] 24) = u0 at *; have HAT0 := HAT.out.lt; obtain ⟨B, hB⟩ : ∃ B, u0.heap.size = B := ⟨_, rfl⟩; rw [hB] at HAT0; have HN := Z_ (ih n (Nat.le_refl _) (.bound 0) _ _ HAT.out.pr HM.out rfl (Nat.zero_le _) (by rw [HT.out]; exact HNE.out)); go_wp2_with fail
 refine HN.out.mono ?_
 rintro e u1 hr; obtain ⟨hC, ⟨lb, hp, rfl⟩ | ⟨x1, l1, v1, hp, rfl, hv, hP⟩⟩ := hr.cases (by rw [HT.out]; exact HNE.out)
 ·have HF := Z_ (HT.out.symm.trans hp)
  have HC := Z_ (HAT.out.chg.then hC); clear hr hp hC; go_wp2_with fail
  exact ⟨rfl, Pst.fails HC.out HF.out⟩
 replace HT := Z_ (HT.out.symm.trans hp); replace HAT := Z_ (HAT.out.call hC hP); obtain ⟨ka1, ta1, ma1, aa1, na1, ca1, rfl⟩ := nd_form hv; have HV1 := Z_ hv; have hsz1 : u0.heap.size ≤ u1.heap.size := hC.size; clear hr hp hC hP hv HN; rw [hB] at HV1; have r0 := HAT.out.res.cell; have rf := HAT.out.res.frozen; have rl := HAT.out.res.lt; unfold zeroNd at r0; go_wp2_with fail
 refine ends_at rfl rfl rfl ((((HAT.out.res.set 0 _).set 1 _).set 2 _).set 3 _) Tryz.underlying24 rfl (by kernel_rfl) ?_
 exact ret_value HAT.out (below B) (HV1.out) (below_yes (by omega)) (fun i hi => below_yes (by omega)) (HT.out)
set_option maxRecDepth 100000 in
set_option maxHeartbeats 4000000 in
theorem asked_any {n : Nat} (ih : ∀ m, m ≤ n → Good m) {W w : World} {S E : Nat} {l : List Tk} (h : PrAt W w S E l) (hm : MaxVar W) (hne : prs (n + 1) (.asked) l ≠ .out) :
  Calls Tryz.prog 334 #[.pointer (some ⟨S, 0, none⟩)] w (Pst (VN w.heap.size) W w S E (prs (n + 1) (.asked) l)) := by
 obtain ⟨T, hT⟩ : ∃ T, prs (n + 1) (.asked) l = T := ⟨_, rfl⟩; rw [hT] at hne ⊢; simp only [prs] at hT; have HT := Z_ hT; have HNE := Z_ hne; have HM := Z_ hm; have HAT : Hid (At W w (w.alloc (.cells #[.int .i64 0, .string ⟨#[]⟩, .int .i64 0, .slice none 0 0] 24)) S E w.heap.size l) := Z_ (At.start h); obtain ⟨A, hA⟩ : ∃ A, w.heap.size = A := ⟨_, rfl⟩; rw [hA] at HAT; have hSA : S < A := by have := h.lt; omega
 clear h hm hne hT; go_enter Tryz.func334, Tryz.ntmps334
 go_upto_region 1 with (fail)
 generalize w.alloc (.cells #[.int .i64 0, .string ⟨#[]⟩, .int .i64 0, .slice none 0 0] 24) = u0 at *; have HN := Z_ (need_any (HAT.out.pr.alloc (.cells #[.string sOpen] 9)) u0.heap.size 1 sOpen ((Blk.made u0 #[.string sOpen] 9).cell 0)); have hEx := (Chg.refl (fun _ => False) u0).alloc (.cells #[.string sOpen] 9); replace HAT := Z_ (HAT.out.extend hEx); clear hEx; go_wp2_with fail
 refine HN.out.mono ?_
 rintro e u1 hr; obtain ⟨hC, ⟨lb, hp, rfl⟩ | ⟨_, l1, _, hp, rfl, rfl, hP⟩⟩ := hr.cases (pNeed_ne _ _)
 ·have HF := Z_ (Out.bind_bad HT.out hp)
  have HC := Z_ (HAT.out.chg.then hC); clear hr hp hC; go_wp2_with fail
  exact ⟨rfl, Pst.fails HC.out HF.out⟩
 replace HT := Z_ (Out.bind_got HT.out hp); replace HAT := Z_ (HAT.out.call hC hP); clear hr hp hC hP HN; have HAT0 := HAT.out.lt; obtain ⟨B, hB⟩ : ∃ B, u1.heap.size = B := ⟨_, rfl⟩; rw [hB] at HAT0; have HN := Z_ (ih n (Nat.le_refl _) (.expr) _ _ HAT.out.pr HM.out rfl trivial (Out.bind_ne HT.out HNE.out)); go_wp2_with fail
 refine HN.out.mono ?_
 rintro e u2 hr; obtain ⟨hC, ⟨lb, hp, rfl⟩ | ⟨x2, l2, v2, hp, rfl, hv, hP⟩⟩ := hr.cases (Out.bind_ne HT.out HNE.out)
 ·have HF := Z_ (Out.bind_bad HT.out hp)
  have HC := Z_ (HAT.out.chg.then hC); clear hr hp hC; go_wp2_with fail
  exact ⟨rfl, Pst.fails HC.out HF.out⟩
 replace HT := Z_ (Out.bind_got HT.out hp); replace HAT := Z_ (HAT.out.call hC hP); obtain ⟨ka2, ta2, ma2, aa2, na2, ca2, rfl⟩ := nd_form hv; have HV2 := Z_ hv; have hsz2 : u1.heap.size ≤ u2.heap.size := hC.size; clear hr hp hC hP hv HN; rw [hB] at HV2 hsz2; have HL := Z_ (Loc.start HV2.out (by omega : S < B) hsz2 (c := #[.int .i64 ka2, .string ta2, .int .i64 ma2, .slice aa2 na2 ca2]) rfl); replace HAT := Z_ (HAT.out.alloc (.cells #[.int .i64 ka2, .string ta2, .int .i64 ma2, .slice aa2 na2 ca2] 24)); obtain ⟨N, hN⟩ : ∃ N, u2.heap.size = N := ⟨_, rfl⟩; have hBN : B ≤ N := hN ▸ hsz2
 rw [hN] at HL; go_upto_region 3 with (fail)
 generalize u2.alloc (.cells #[.int .i64 ka2, .string ta2, .int .i64 ma2, .slice aa2 na2 ca2] 24) = u9 at *; have HN := Z_ (need_any (HAT.out.pr.alloc (.cells #[.string sClose] 9)) u9.heap.size 1 sClose ((Blk.made u9 #[.string sClose] 9).cell 0)); have hEx := (Chg.refl (fun _ => False) u9).alloc (.cells #[.string sClose] 9); replace HAT := Z_ (HAT.out.extend hEx); replace HL := Z_ (HL.out.extend hEx); clear hEx; go_wp2_with fail
 refine HN.out.mono ?_
 rintro e u3 hr; obtain ⟨hC, ⟨lb, hp, rfl⟩ | ⟨_, l3, _, hp, rfl, rfl, hP⟩⟩ := hr.cases (pNeed_ne _ _)
 ·have HF := Z_ (Out.bind_bad HT.out hp)
  have HC := Z_ (HAT.out.chg.then hC); clear hr hp hC; go_wp2_with fail
  exact ⟨rfl, Pst.fails HC.out HF.out⟩
 replace HT := Z_ (Out.bind_got HT.out hp); replace HAT := Z_ (HAT.out.call hC hP); replace HL := Z_ (HL.out.call hC); clear hr hp hC hP HN; have hc := HL.out.nd.cell; simp only [Value.cells] at hc; have r0 := HAT.out.res.cell; have rf := HAT.out.res.frozen; have rl := HAT.out.res.lt; unfold zeroNd at r0; go_wp2_with fail
 refine ends_at rfl rfl rfl ((((HAT.out.res.set 0 _).set 1 _).set 2 _).set 3 _) Tryz.underlying24 rfl (by kernel_rfl) ?_
 exact ret_value HAT.out (hidB B N) (HL.out.dat) (hidB_yes (by omega)) (fun i hi => hidB_yes (by omega)) (HT.out.symm)
set_option maxRecDepth 100000 in
set_option maxHeartbeats 4000000 in
theorem place_any {n : Nat} (ih : ∀ m, m ≤ n → Good m) {W w : World} {S E : Nat} {l : List Tk} {s : ByteArray} (h : PrAt W w S E l) (hm : MaxVar W) (hs : s.size ≤ 7000) (hne : prs (n + 1) (.place s) l ≠ .out) :
  Calls Tryz.prog 335 #[.pointer (some ⟨S, 0, none⟩), .string s] w (Pst (VN w.heap.size) W w S E (prs (n + 1) (.place s) l)) := by
 obtain ⟨T, hT⟩ : ∃ T, prs (n + 1) (.place s) l = T := ⟨_, rfl⟩; rw [hT] at hne ⊢; simp only [prs] at hT; have HT := Z_ hT; have HNE := Z_ hne; have HM := Z_ hm; have HAT : Hid (At W w (w.alloc (.cells #[.int .i64 0, .string ⟨#[]⟩, .int .i64 0, .slice none 0 0] 24)) S E w.heap.size l) := Z_ (At.start h); obtain ⟨A, hA⟩ : ∃ A, w.heap.size = A := ⟨_, rfl⟩; rw [hA] at HAT; have hSA : S < A := by have := h.lt; omega
 clear h hm hne hT; go_enter Tryz.func335, Tryz.ntmps335
 go_upto_region 1 with (fail)
 generalize w.alloc (.cells #[.int .i64 0, .string ⟨#[]⟩, .int .i64 0, .slice none 0 0] 24) = u0 at *; have HH := Z_ (have_any HAT.out.pr sBra); have HLE := Z_ (fun (h : isB l [sBra] = true) => synm.tail_lt h); generalize isB l [sBra] = R at *; go_wp2_with fail
 refine HH.out.mono ?_
 rintro e u1 ⟨rfl, hC, hP⟩; cases R with
 | false =>
  replace hP : PrAt W u1 S E l := by simpa using hP
  have HT0 := HT.out; clear HT; simp only [Bool.false_eq_true, ↓reduceIte] at HT0; have HT := Z_ HT0; clear HT0; replace HAT := Z_ (HAT.out.call hC hP); clear hC hP HH HLE; go_wp2_with fail
  refine (node_any _ _ _ _ _ _ _).mono ?_
  rintro e u2 ⟨rfl, hE⟩; replace HAT := Z_ (HAT.out.extend hE); have HAT0 := HAT.out.lt; clear hE; have r0 := HAT.out.res.cell; have rf := HAT.out.res.frozen; have rl := HAT.out.res.lt; unfold zeroNd at r0; go_wp2_with fail
  refine ends_at rfl rfl rfl ((((HAT.out.res.set 0 _).set 1 _).set 2 _).set 3 _) Tryz.underlying24 rfl (by kernel_rfl) ?_
  exact ret_value HAT.out (below (A + 1)) (ndAt_leaf _ _ _ _ (by omega)) (below_yes (by omega)) (fun i hi => below_yes (by omega)) (HT.out.symm)
 | true =>
  replace hP : PrAt W u1 S E l.tail := by simpa using hP
  have HT0 := HT.out; clear HT; simp only [↓reduceIte] at HT0; have HT := Z_ HT0; clear HT0; replace HAT := Z_ (HAT.out.call hC hP); clear hC hP HH HLE; have HAT0 := HAT.out.lt; obtain ⟨B, hB⟩ : ∃ B, u1.heap.size = B := ⟨_, rfl⟩; rw [hB] at HAT0; have HN := Z_ (ih n (Nat.le_refl _) (.expr) _ _ HAT.out.pr HM.out rfl trivial (Out.bind_ne HT.out HNE.out)); go_wp2_with fail
  refine HN.out.mono ?_
  rintro e u4 hr; obtain ⟨hC, ⟨lb, hp, rfl⟩ | ⟨x4, l4, v4, hp, rfl, hv, hP⟩⟩ := hr.cases (Out.bind_ne HT.out HNE.out)
  ·have HF := Z_ (Out.bind_bad HT.out hp)
   have HC := Z_ (HAT.out.chg.then hC); clear hr hp hC; go_wp2_with fail
   exact ⟨rfl, Pst.fails HC.out HF.out⟩
  replace HT := Z_ (Out.bind_got HT.out hp); replace HAT := Z_ (HAT.out.call hC hP); obtain ⟨ka4, ta4, ma4, aa4, na4, ca4, rfl⟩ := nd_form hv; have HV4 := Z_ hv; have hsz4 : u1.heap.size ≤ u4.heap.size := hC.size; clear hr hp hC hP hv HN; rw [hB] at HV4 hsz4; have HL := Z_ (Loc.start HV4.out (by omega : S < B) hsz4 (c := #[.int .i64 ka4, .string ta4, .int .i64 ma4, .slice aa4 na4 ca4]) rfl); replace HAT := Z_ (HAT.out.alloc (.cells #[.int .i64 ka4, .string ta4, .int .i64 ma4, .slice aa4 na4 ca4] 24)); obtain ⟨N, hN⟩ : ∃ N, u4.heap.size = N := ⟨_, rfl⟩; have hBN : B ≤ N := hN ▸ hsz4
  rw [hN] at HL; go_upto_region 4 with (fail)
  generalize u4.alloc (.cells #[.int .i64 ka4, .string ta4, .int .i64 ma4, .slice aa4 na4 ca4] 24) = u9 at *; have HN := Z_ (need_any (HAT.out.pr.alloc (.cells #[.string sKet] 9)) u9.heap.size 1 sKet ((Blk.made u9 #[.string sKet] 9).cell 0)); have hEx := (Chg.refl (fun _ => False) u9).alloc (.cells #[.string sKet] 9); replace HAT := Z_ (HAT.out.extend hEx); replace HL := Z_ (HL.out.extend hEx); clear hEx; go_wp2_with fail
  refine HN.out.mono ?_
  rintro e u5 hr; obtain ⟨hC, ⟨lb, hp, rfl⟩ | ⟨_, l5, _, hp, rfl, rfl, hP⟩⟩ := hr.cases (pNeed_ne _ _)
  ·have HF := Z_ (Out.bind_bad HT.out hp)
   have HC := Z_ (HAT.out.chg.then hC); clear hr hp hC; go_wp2_with fail
   exact ⟨rfl, Pst.fails HC.out HF.out⟩
  replace HT := Z_ (Out.bind_got HT.out hp); replace HAT := Z_ (HAT.out.call hC hP); replace HL := Z_ (HL.out.call hC); clear hr hp hC hP HN; have hNu := HL.out.nd.lt; replace HR := Z_ (nd_row1 HL.out.dat (by simp [hidB]; omega) 17 0 s (by first | omega | decide) (c := #[.int .i64 ka4, .string ta4, .int .i64 ma4, .slice aa4 na4 ca4]) rfl); have hc := HL.out.nd.cell; simp only [Value.cells] at hc; have hEx := (Chg.refl (fun _ => False) u5).alloc (.cells #[.int .i64 ka4, .string ta4, .int .i64 ma4, .slice aa4 na4 ca4] 24); replace HAT := Z_ (HAT.out.extend hEx); clear hEx; go_wp2_with fail
  refine (node_any _ _ _ _ _ _ _).mono ?_
  rintro e u6 ⟨rfl, hE⟩; replace HAT := Z_ (HAT.out.extend hE); replace HR := Z_ (ndAt_keeps (keeps_chg hE fun _ _ h => h.elim) _ _ HR.out); clear hE hc; have r0 := HAT.out.res.cell; have rf := HAT.out.res.frozen; have rl := HAT.out.res.lt; unfold zeroNd at r0; go_wp2_with fail
  refine ends_at rfl rfl rfl ((((HAT.out.res.set 0 _).set 1 _).set 2 _).set 3 _) Tryz.underlying24 rfl (by kernel_rfl) ?_
  exact ret_value HAT.out (hidB B N) (HR.out) (hidB_yes (by omega)) (fun i hi => hidB_yes (by omega)) (HT.out.symm)
set_option maxRecDepth 100000 in
set_option maxHeartbeats 4000000 in
theorem op_any (s : ByteArray) (w : World) : Calls Tryz.prog 277 #[.string s] w fun e w' => e = .returned (.tuple #[.int .i64 (opOf s).1, .int .i64 (opOf s).2]) ∧ w = w' := by
 by_cases h0 : s = ⟨#[61, 61]⟩
 ·subst h0
  go_enter Tryz.func277, Tryz.ntmps277
  go_wp2_with fail
  go_ret2
  exact ⟨rfl, rfl⟩
 by_cases h1 : s = ⟨#[60]⟩
 ·subst h1
  go_enter Tryz.func277, Tryz.ntmps277
  go_wp2_with fail
  go_ret2
  exact ⟨rfl, rfl⟩
 by_cases h2 : s = ⟨#[43]⟩
 ·subst h2
  go_enter Tryz.func277, Tryz.ntmps277
  go_wp2_with fail
  go_ret2
  exact ⟨rfl, rfl⟩
 by_cases h3 : s = ⟨#[45]⟩
 ·subst h3
  go_enter Tryz.func277, Tryz.ntmps277
  go_wp2_with fail
  go_ret2
  exact ⟨rfl, rfl⟩
 by_cases h4 : s = ⟨#[124]⟩
 ·subst h4
  go_enter Tryz.func277, Tryz.ntmps277
  go_wp2_with fail
  go_ret2
  exact ⟨rfl, rfl⟩
 by_cases h5 : s = ⟨#[42]⟩
 ·subst h5
  go_enter Tryz.func277, Tryz.ntmps277
  go_wp2_with fail
  go_ret2
  exact ⟨rfl, rfl⟩
 by_cases h6 : s = ⟨#[47]⟩
 ·subst h6
  go_enter Tryz.func277, Tryz.ntmps277
  go_wp2_with fail
  go_ret2
  exact ⟨rfl, rfl⟩
 by_cases h7 : s = ⟨#[37]⟩
 ·subst h7
  go_enter Tryz.func277, Tryz.ntmps277
  go_wp2_with fail
  go_ret2
  exact ⟨rfl, rfl⟩
 by_cases h8 : s = ⟨#[38]⟩
 ·subst h8
  go_enter Tryz.func277, Tryz.ntmps277
  go_wp2_with fail
  go_ret2
  exact ⟨rfl, rfl⟩
 have g0 : (s.toList == [61, 61]) = false := by
  have := str_eq (a := s) (b := ⟨#[61, 61]⟩); rw [show ((⟨#[61, 61]⟩ : ByteArray).toList) = [61, 61] by rw [ByteArray.toList_eq]] at this; rw [this]; simpa using h0
 have g1 : (s.toList == [60]) = false := by
  have := str_eq (a := s) (b := ⟨#[60]⟩); rw [show ((⟨#[60]⟩ : ByteArray).toList) = [60] by rw [ByteArray.toList_eq]] at this; rw [this]; simpa using h1
 have g2 : (s.toList == [43]) = false := by
  have := str_eq (a := s) (b := ⟨#[43]⟩); rw [show ((⟨#[43]⟩ : ByteArray).toList) = [43] by rw [ByteArray.toList_eq]] at this; rw [this]; simpa using h2
 have g3 : (s.toList == [45]) = false := by
  have := str_eq (a := s) (b := ⟨#[45]⟩); rw [show ((⟨#[45]⟩ : ByteArray).toList) = [45] by rw [ByteArray.toList_eq]] at this; rw [this]; simpa using h3
 have g4 : (s.toList == [124]) = false := by
  have := str_eq (a := s) (b := ⟨#[124]⟩); rw [show ((⟨#[124]⟩ : ByteArray).toList) = [124] by rw [ByteArray.toList_eq]] at this; rw [this]; simpa using h4
 have g5 : (s.toList == [42]) = false := by
  have := str_eq (a := s) (b := ⟨#[42]⟩); rw [show ((⟨#[42]⟩ : ByteArray).toList) = [42] by rw [ByteArray.toList_eq]] at this; rw [this]; simpa using h5
 have g6 : (s.toList == [47]) = false := by
  have := str_eq (a := s) (b := ⟨#[47]⟩); rw [show ((⟨#[47]⟩ : ByteArray).toList) = [47] by rw [ByteArray.toList_eq]] at this; rw [this]; simpa using h6
 have g7 : (s.toList == [37]) = false := by
  have := str_eq (a := s) (b := ⟨#[37]⟩); rw [show ((⟨#[37]⟩ : ByteArray).toList) = [37] by rw [ByteArray.toList_eq]] at this; rw [this]; simpa using h7
 have g8 : (s.toList == [38]) = false := by
  have := str_eq (a := s) (b := ⟨#[38]⟩); rw [show ((⟨#[38]⟩ : ByteArray).toList) = [38] by rw [ByteArray.toList_eq]] at this; rw [this]; simpa using h8
 have hT : opOf s = (0, -1) := by simp only [opOf, if_neg h0, if_neg h1, if_neg h2, if_neg h3, if_neg h4, if_neg h5, if_neg h6, if_neg h7, if_neg h8]
 rw [hT]; clear hT h0 h1 h2 h3 h4 h5 h6 h7 h8; go_enter Tryz.func277, Tryz.ntmps277
 go_wp2_with fail
 go_ret2
 exact ⟨rfl, rfl⟩
end synw
end Go.Proofs.YtpcihajmcejliacGreatDoor
namespace Go.Proofs.YtpcihajmcejliacGreatDoor
open Go.RowKit
namespace synw
set_option maxRecDepth 100000 in
set_option maxHeartbeats 4000000 in
theorem unary_any {n : Nat} (ih : ∀ m, m ≤ n → Good m) {W w : World} {S E : Nat} {l : List Tk} (h : PrAt W w S E l) (hm : MaxVar W) (hne : prs (n + 1) (.unary) l ≠ .out) :
  Calls Tryz.prog 375 #[.pointer (some ⟨S, 0, none⟩)] w (Pst (VN w.heap.size) W w S E (prs (n + 1) (.unary) l)) := by
 obtain ⟨T, hT⟩ : ∃ T, prs (n + 1) (.unary) l = T := ⟨_, rfl⟩; rw [hT] at hne ⊢; simp only [prs] at hT; have HT := Z_ hT; have HNE := Z_ hne; have HM := Z_ hm; have HAT : Hid (At W w (w.alloc (.cells #[.int .i64 0, .string ⟨#[]⟩, .int .i64 0, .slice none 0 0] 24)) S E w.heap.size l) := Z_ (At.start h); obtain ⟨A, hA⟩ : ∃ A, w.heap.size = A := ⟨_, rfl⟩; rw [hA] at HAT; have hSA : S < A := by have := h.lt; omega
 clear h hm hne hT; go_enter Tryz.func375, Tryz.ntmps375
 go_upto_region 1 with (fail)
 generalize w.alloc (.cells #[.int .i64 0, .string ⟨#[]⟩, .int .i64 0, .slice none 0 0] 24) = u0 at *; have HH := Z_ (have_any HAT.out.pr sMinus); have HLE := Z_ (fun (h : isB l [sMinus] = true) => synm.tail_lt h); generalize isB l [sMinus] = R at *; go_wp2_with fail
 refine HH.out.mono ?_
 rintro e u1 ⟨rfl, hC, hP⟩; cases R with
 | false =>
  replace hP : PrAt W u1 S E l := by simpa using hP
  have HT0 := HT.out; clear HT; simp only [Bool.false_eq_true, ↓reduceIte] at HT0; have HT := Z_ HT0; clear HT0; replace HAT := Z_ (HAT.out.call hC hP); clear hC hP HH HLE; have HH := Z_ (have_any HAT.out.pr sNot); have HLE := Z_ (fun (h : isB l [sNot] = true) => synm.tail_lt h); generalize isB l [sNot] = R at *; go_wp2_with fail
  refine HH.out.mono ?_
  rintro e u2 ⟨rfl, hC, hP⟩; cases R with
  | false =>
   replace hP : PrAt W u2 S E l := by simpa using hP
   have HT0 := HT.out; clear HT; simp only [Bool.false_eq_true, ↓reduceIte] at HT0; have HT := Z_ HT0; clear HT0; replace HAT := Z_ (HAT.out.call hC hP); clear hC hP HH HLE
   have HH := Z_ (is_any (HAT.out.pr.alloc (.cells #[.string sOpen] 9)) u2.heap.size [sOpen] 1 1 rfl (by decide) (fun j hj => by
    obtain rfl : j = 0 := by simpa using hj
    exact (Blk.made u2 #[.string sOpen] 9).cell 0) (by simp))
   have hEx := (Chg.refl (fun _ => False) u2).alloc (.cells #[.string sOpen] 9); replace HAT := Z_ (HAT.out.extend hEx); clear hEx; generalize isB l [sOpen] = R at *; go_wp2_with fail
   refine HH.out.mono ?_
   rintro e u3 ⟨rfl, hE⟩; replace HAT := Z_ (HAT.out.extend hE); clear hE HH; cases R with
   | false =>
    have HT0 := HT.out; clear HT; simp only [Bool.false_eq_true, ↓reduceIte] at HT0; have HT := Z_ HT0; clear HT0; have HH := Z_ (peek_any HAT.out.pr); have hk := hd_kind E l; generalize hdTk E l = tk0 at HH hk; obtain ⟨tk, tt, ta⟩ := tk0; simp only at hk; unfold tkV at HH; go_wp2_with fail
    refine HH.out.mono ?_
    rintro e u4 ⟨rfl, hE⟩; replace HAT := Z_ (HAT.out.extend hE); have hfi := field_kind (.int .i64 tk) (.string tt) (.int .i64 ta) u4; rw [← hk] at HT; clear hE HH hk; by_cases hk2 : tk = 2
    ·subst hk2
     have HT0 := HT.out; clear HT; simp only [↓reduceIte] at HT0; have HT := Z_ HT0; clear HT0; have HAT0 := HAT.out.lt; obtain ⟨B, hB⟩ : ∃ B, u4.heap.size = B := ⟨_, rfl⟩; rw [hB] at HAT0; have HN := Z_ (number_any HAT.out.pr); go_wp2_with fail
     refine HN.out.mono ?_
     rintro e u5 hr; obtain ⟨hC, ⟨lb, hp, rfl⟩ | ⟨x, l5, v, hp, rfl, hv, hP⟩⟩ := hr.cases (by rw [HT.out]; exact HNE.out)
     ·have HF := Z_ (HT.out.symm.trans hp)
      have HC := Z_ (HAT.out.chg.then hC); clear hr hp hC; go_wp2_with fail
      exact ⟨rfl, Pst.fails HC.out HF.out⟩
     replace HT := Z_ (HT.out.symm.trans hp); replace HAT := Z_ (HAT.out.call hC hP); obtain ⟨ka, ta, ma, aa, na, ca, rfl⟩ := nd_form hv; have HV := Z_ (show VN _ _ _ _ from hv); clear hr hp hC hP hv HN; rw [hB] at HV; have r0 := HAT.out.res.cell; have rf := HAT.out.res.frozen; have rl := HAT.out.res.lt; unfold zeroNd at r0; go_wp2_with fail
     refine ends_at rfl rfl rfl ((((HAT.out.res.set 0 _).set 1 _).set 2 _).set 3 _) Tryz.underlying24 rfl (by kernel_rfl) ?_
     exact ret_value HAT.out (below B) (HV.out) (below_yes (by omega)) (fun i hi => below_yes (by omega)) (HT.out)
    ·have HT0 := HT.out
     clear HT; simp only [if_neg hk2] at HT0; have HT := Z_ HT0; clear HT0; have hk3 : (tk == 2) = false := by simpa using hk2
     have HN := Z_ (whole_any HAT.out.pr HM.out); go_wp2_with fail
     refine HN.out.mono ?_
     rintro e u6 hr; obtain ⟨hC, ⟨lb, hp, rfl⟩ | ⟨s6, l6, v, hp, rfl, ⟨rfl, hs⟩, hP⟩⟩ := hr.cases (pWhole_ne _)
     ·have HF := Z_ (Out.bind_bad HT.out hp)
      have HC := Z_ (HAT.out.chg.then hC); clear hr hp hC; go_wp2_with fail
      exact ⟨rfl, Pst.fails HC.out HF.out⟩
     replace HT := Z_ (Out.bind_got HT.out hp); replace HAT := Z_ (HAT.out.call hC hP); have HSZ := Z_ hs; clear hr hp hC hP HN; clear hs
     have HH := Z_ (is_any (HAT.out.pr.alloc (.cells #[.string sOpen] 9)) u6.heap.size [sOpen] 1 1 rfl (by decide) (fun j hj => by
      obtain rfl : j = 0 := by simpa using hj
      exact (Blk.made u6 #[.string sOpen] 9).cell 0) (by simp))
     have hEx := (Chg.refl (fun _ => False) u6).alloc (.cells #[.string sOpen] 9); replace HAT := Z_ (HAT.out.extend hEx); clear hEx; generalize isB l6 [sOpen] = R at *; go_wp2_with fail
     refine HH.out.mono ?_
     rintro e u7 ⟨rfl, hE⟩; replace HAT := Z_ (HAT.out.extend hE); clear hE HH; cases R with
     | false =>
      have HT0 := HT.out; clear HT; simp only [Bool.false_eq_true, ↓reduceIte] at HT0; have HT := Z_ HT0; clear HT0; have HAT0 := HAT.out.lt; obtain ⟨B, hB⟩ : ∃ B, u7.heap.size = B := ⟨_, rfl⟩; rw [hB] at HAT0; have HN := Z_ (ih n (Nat.le_refl _) (.place s6) _ _ HAT.out.pr HM.out rfl HSZ.out (by rw [HT.out]; exact HNE.out)); go_wp2_with fail
      refine HN.out.mono ?_
      rintro e u8 hr; obtain ⟨hC, ⟨lb, hp, rfl⟩ | ⟨x8, l8, v8, hp, rfl, hv, hP⟩⟩ := hr.cases (by rw [HT.out]; exact HNE.out)
      ·have HF := Z_ (HT.out.symm.trans hp)
       have HC := Z_ (HAT.out.chg.then hC); clear hr hp hC; go_wp2_with fail
       exact ⟨rfl, Pst.fails HC.out HF.out⟩
      replace HT := Z_ (HT.out.symm.trans hp); replace HAT := Z_ (HAT.out.call hC hP); obtain ⟨ka8, ta8, ma8, aa8, na8, ca8, rfl⟩ := nd_form hv; have HV8 := Z_ hv; have hsz8 : u7.heap.size ≤ u8.heap.size := hC.size; clear hr hp hC hP hv HN; rw [hB] at HV8; have r0 := HAT.out.res.cell; have rf := HAT.out.res.frozen; have rl := HAT.out.res.lt; unfold zeroNd at r0; go_wp2_with fail
      refine ends_at rfl rfl rfl ((((HAT.out.res.set 0 _).set 1 _).set 2 _).set 3 _) Tryz.underlying24 rfl (by kernel_rfl) ?_
      exact ret_value HAT.out (below B) (HV8.out) (below_yes (by omega)) (fun i hi => below_yes (by omega)) (HT.out)
     | true =>
      have HT0 := HT.out; clear HT; simp only [↓reduceIte] at HT0; have HT := Z_ HT0; clear HT0; have HAT0 := HAT.out.lt; obtain ⟨B, hB⟩ : ∃ B, u7.heap.size = B := ⟨_, rfl⟩; rw [hB] at HAT0; have HN := Z_ (ih n (Nat.le_refl _) (.call s6) _ _ HAT.out.pr HM.out rfl HSZ.out (by rw [HT.out]; exact HNE.out)); go_wp2_with fail
      refine HN.out.mono ?_
      rintro e u9 hr; obtain ⟨hC, ⟨lb, hp, rfl⟩ | ⟨x9, l9, v9, hp, rfl, hv, hP⟩⟩ := hr.cases (by rw [HT.out]; exact HNE.out)
      ·have HF := Z_ (HT.out.symm.trans hp)
       have HC := Z_ (HAT.out.chg.then hC); clear hr hp hC; go_wp2_with fail
       exact ⟨rfl, Pst.fails HC.out HF.out⟩
      replace HT := Z_ (HT.out.symm.trans hp); replace HAT := Z_ (HAT.out.call hC hP); obtain ⟨ka9, ta9, ma9, aa9, na9, ca9, rfl⟩ := nd_form hv; have HV9 := Z_ hv; have hsz9 : u7.heap.size ≤ u9.heap.size := hC.size; clear hr hp hC hP hv HN; rw [hB] at HV9; have r0 := HAT.out.res.cell; have rf := HAT.out.res.frozen; have rl := HAT.out.res.lt; unfold zeroNd at r0; go_wp2_with fail
      refine ends_at rfl rfl rfl ((((HAT.out.res.set 0 _).set 1 _).set 2 _).set 3 _) Tryz.underlying24 rfl (by kernel_rfl) ?_
      exact ret_value HAT.out (below B) (HV9.out) (below_yes (by omega)) (fun i hi => below_yes (by omega)) (HT.out)
   | true =>
    have HT0 := HT.out; clear HT; simp only [↓reduceIte] at HT0; have HT := Z_ HT0; clear HT0; have HAT0 := HAT.out.lt; obtain ⟨B, hB⟩ : ∃ B, u3.heap.size = B := ⟨_, rfl⟩; rw [hB] at HAT0; have HN := Z_ (ih n (Nat.le_refl _) (.asked) _ _ HAT.out.pr HM.out rfl trivial (by rw [HT.out]; exact HNE.out)); go_wp2_with fail
    refine HN.out.mono ?_
    rintro e u10 hr; obtain ⟨hC, ⟨lb, hp, rfl⟩ | ⟨x10, l10, v10, hp, rfl, hv, hP⟩⟩ := hr.cases (by rw [HT.out]; exact HNE.out)
    ·have HF := Z_ (HT.out.symm.trans hp)
     have HC := Z_ (HAT.out.chg.then hC); clear hr hp hC; go_wp2_with fail
     exact ⟨rfl, Pst.fails HC.out HF.out⟩
    replace HT := Z_ (HT.out.symm.trans hp); replace HAT := Z_ (HAT.out.call hC hP); obtain ⟨ka10, ta10, ma10, aa10, na10, ca10, rfl⟩ := nd_form hv; have HV10 := Z_ hv; have hsz10 : u3.heap.size ≤ u10.heap.size := hC.size; clear hr hp hC hP hv HN; rw [hB] at HV10; have r0 := HAT.out.res.cell; have rf := HAT.out.res.frozen; have rl := HAT.out.res.lt; unfold zeroNd at r0; go_wp2_with fail
    refine ends_at rfl rfl rfl ((((HAT.out.res.set 0 _).set 1 _).set 2 _).set 3 _) Tryz.underlying24 rfl (by kernel_rfl) ?_
    exact ret_value HAT.out (below B) (HV10.out) (below_yes (by omega)) (fun i hi => below_yes (by omega)) (HT.out)
  | true =>
   replace hP : PrAt W u2 S E l.tail := by simpa using hP
   have HT0 := HT.out; clear HT; simp only [↓reduceIte] at HT0; have HT := Z_ HT0; clear HT0; replace HAT := Z_ (HAT.out.call hC hP); clear hC hP HH HLE; have HAT0 := HAT.out.lt; obtain ⟨B, hB⟩ : ∃ B, u2.heap.size = B := ⟨_, rfl⟩; rw [hB] at HAT0; have HN := Z_ (ih n (Nat.le_refl _) (.unary) _ _ HAT.out.pr HM.out rfl trivial (Out.bind_ne HT.out HNE.out)); go_wp2_with fail
   refine HN.out.mono ?_
   rintro e u12 hr; obtain ⟨hC, ⟨lb, hp, rfl⟩ | ⟨x12, l12, v12, hp, rfl, hv, hP⟩⟩ := hr.cases (Out.bind_ne HT.out HNE.out)
   ·have HF := Z_ (Out.bind_bad HT.out hp)
    have HC := Z_ (HAT.out.chg.then hC); clear hr hp hC; go_wp2_with fail
    exact ⟨rfl, Pst.fails HC.out HF.out⟩
   replace HT := Z_ (Out.bind_got HT.out hp); replace HAT := Z_ (HAT.out.call hC hP); obtain ⟨ka12, ta12, ma12, aa12, na12, ca12, rfl⟩ := nd_form hv; have HV12 := Z_ hv; have hsz12 : u2.heap.size ≤ u12.heap.size := hC.size; clear hr hp hC hP hv HN; rw [hB] at HV12 hsz12; replace HR := Z_ (nd_row1 HV12.out (by simp [below]; omega) 21 0 noText (by decide) (c := #[.int .i64 ka12, .string ta12, .int .i64 ma12, .slice aa12 na12 ca12]) rfl); have hEx := (Chg.refl (fun _ => False) u12).alloc (.cells #[.int .i64 ka12, .string ta12, .int .i64 ma12, .slice aa12 na12 ca12] 24); replace HAT := Z_ (HAT.out.extend hEx); clear hEx; go_wp2_with fail
   refine (node_any _ _ _ _ _ _ _).mono ?_
   rintro e u13 ⟨rfl, hE⟩; replace HAT := Z_ (HAT.out.extend hE); replace HR := Z_ (ndAt_keeps (keeps_chg hE fun _ _ h => h.elim) _ _ HR.out); clear hE; have r0 := HAT.out.res.cell; have rf := HAT.out.res.frozen; have rl := HAT.out.res.lt; unfold zeroNd at r0; go_wp2_with fail
   refine ends_at rfl rfl rfl ((((HAT.out.res.set 0 _).set 1 _).set 2 _).set 3 _) Tryz.underlying24 rfl (by kernel_rfl) ?_
   exact ret_value HAT.out (below B) (HR.out) (below_yes (by omega)) (fun i hi => below_yes (by omega)) (HT.out.symm)
 | true =>
  replace hP : PrAt W u1 S E l.tail := by simpa using hP
  have HT0 := HT.out; clear HT; simp only [↓reduceIte] at HT0; have HT := Z_ HT0; clear HT0; replace HAT := Z_ (HAT.out.call hC hP); clear hC hP HH HLE; have HAT0 := HAT.out.lt; obtain ⟨B, hB⟩ : ∃ B, u1.heap.size = B := ⟨_, rfl⟩; rw [hB] at HAT0; have HN := Z_ (ih n (Nat.le_refl _) (.unary) _ _ HAT.out.pr HM.out rfl trivial (Out.bind_ne HT.out HNE.out)); go_wp2_with fail
  refine HN.out.mono ?_
  rintro e u15 hr; obtain ⟨hC, ⟨lb, hp, rfl⟩ | ⟨x15, l15, v15, hp, rfl, hv, hP⟩⟩ := hr.cases (Out.bind_ne HT.out HNE.out)
  ·have HF := Z_ (Out.bind_bad HT.out hp)
   have HC := Z_ (HAT.out.chg.then hC); clear hr hp hC; go_wp2_with fail
   exact ⟨rfl, Pst.fails HC.out HF.out⟩
  replace HT := Z_ (Out.bind_got HT.out hp); replace HAT := Z_ (HAT.out.call hC hP); obtain ⟨ka15, ta15, ma15, aa15, na15, ca15, rfl⟩ := nd_form hv; have HV15 := Z_ hv; have hsz15 : u1.heap.size ≤ u15.heap.size := hC.size; clear hr hp hC hP hv HN; rw [hB] at HV15 hsz15; replace HR := Z_ (nd_row1 HV15.out (by simp [below]; omega) 20 0 noText (by decide) (c := #[.int .i64 ka15, .string ta15, .int .i64 ma15, .slice aa15 na15 ca15]) rfl); have hEx := (Chg.refl (fun _ => False) u15).alloc (.cells #[.int .i64 ka15, .string ta15, .int .i64 ma15, .slice aa15 na15 ca15] 24); replace HAT := Z_ (HAT.out.extend hEx); clear hEx; go_wp2_with fail
  refine (node_any _ _ _ _ _ _ _).mono ?_
  rintro e u16 ⟨rfl, hE⟩; replace HAT := Z_ (HAT.out.extend hE); replace HR := Z_ (ndAt_keeps (keeps_chg hE fun _ _ h => h.elim) _ _ HR.out); clear hE; have r0 := HAT.out.res.cell; have rf := HAT.out.res.frozen; have rl := HAT.out.res.lt; unfold zeroNd at r0; go_wp2_with fail
  refine ends_at rfl rfl rfl ((((HAT.out.res.set 0 _).set 1 _).set 2 _).set 3 _) Tryz.underlying24 rfl (by kernel_rfl) ?_
  exact ret_value HAT.out (below B) (HR.out) (below_yes (by omega)) (fun i hi => below_yes (by omega)) (HT.out.symm)
end synw
end Go.Proofs.YtpcihajmcejliacGreatDoor
