/- The reference's reader: every reading function, at every fuel. The walk of syntax.weigh. How large and how deep a node is, in plain Lean. The reference's Many, Deep, Fits. What a module's declarations are, in plain Lean: its face, its imports, the first fault. How many nodes one has: the program's weight and the reference's Weight. A row in a cell grows by one, in a region that draws its order: what is known on the way. -/
import Derived.WalkKit
import Derived.Deep.AppendLies
import Derived.Test.YtpcihajmcejliabGreatDoorSynR6
import Derived.Test.YtpcihajmcejliabGreatDoorSynR8
import Derived.Test.YtpcihajmcejliabGreatDoorSynR
import Derived.Test.YtpcihajmcejliabGreatDoorLexBlanks
import Derived.Test.YtpcihajmcejliabGreatDoorChain
namespace Go.Proofs.YtpcihajmcejliabGreatDoor
open Go.RowKit
namespace synr
open synw
theorem expr_rc {b0 g0 : Bool} {n : Nat} (dB : RC b0 true n (.bound 0)) : RC b0 g0 (n + 1) .expr := by
 intro W w S l b f a h hb hg he ha hne; simp only [rArgs, Option.some.injEq, Prod.mk.injEq] at he; obtain ⟨rfl, rfl⟩ := he; exact expr_step dB h hb hg hne
theorem place_rc {b0 g0 : Bool} {n : Nat} {s : ByteArray} (dX : RC b0 true n .expr) : RC b0 g0 (n + 1) (.place s) := by
 intro W w S l b f a h hb hg he ha hne; simp only [rArgs, Option.some.injEq, Prod.mk.injEq] at he; obtain ⟨rfl, rfl⟩ := he; exact place_step dX h hb hg ha hne
theorem call_rc {b0 g0 : Bool} {n : Nat} {s : ByteArray} (dG : ∀ m, m ≤ n → RC b0 true m .expr) : RC b0 g0 (n + 1) (.call s) := by
 intro W w S l b f a h hb hg he ha hne; simp only [rArgs, Option.some.injEq, Prod.mk.injEq] at he; obtain ⟨rfl, rfl⟩ := he; exact call_step dG h hb hg ha hne
theorem asked_rc {b0 g0 : Bool} {n : Nat} (dX : RC b0 false n .expr) : RC b0 g0 (n + 1) .asked := by
 intro W w S l b f a h hb hg he ha hne; simp only [rArgs, Option.some.injEq, Prod.mk.injEq] at he; obtain ⟨rfl, rfl⟩ := he; exact asked_step dX h hb hg hne
theorem unary_rc {b0 g0 : Bool} {n : Nat} (dU : RC b0 true n .unary) (dA : RC b0 true n .asked) (dC : ∀ s, RC b0 true n (.call s)) (dP : ∀ s, RC b0 false n (.place s)) : RC b0 g0 (n + 1) .unary := by
 intro W w S l b f a h hb hg he ha hne; simp only [rArgs, Option.some.injEq, Prod.mk.injEq] at he; obtain ⟨rfl, rfl⟩ := he; exact unary_step dU dA dC dP h hb hg hne
theorem bound_rc {b0 g0 : Bool} {n : Nat} {k : Nat} (dU : RC b0 false n .unary) (dB : RC b0 false n (.bound (k + 1))) (dG : ∀ m, m ≤ n → RC b0 true m (.bound (k + 1))) : RC b0 g0 (n + 1) (.bound k) := by
 intro W w S l b f a h hb hg he ha hne; simp only [rArgs, Option.some.injEq, Prod.mk.injEq] at he; obtain ⟨rfl, rfl⟩ := he; exact bound_step dU dB dG h hb hg ha hne
theorem block_rc {b0 g0 : Bool} {n : Nat} (dG : ∀ m, m ≤ n → RC b0 true m .stat) : RC b0 g0 (n + 1) .block := by
 intro W w S l b f a h hb hg he ha hne; simp only [rArgs, Option.some.injEq, Prod.mk.injEq] at he; obtain ⟨rfl, rfl⟩ := he; exact block_step dG h hb hg hne
theorem stat_rc {b0 g0 : Bool} {n : Nat} (dA : RC b0 true n .asked) (dK : RC b0 false n .block) (dX : RC b0 false n .expr) (dC : ∀ s, RC b0 false n (.call s)) (dP : ∀ s, RC b0 false n (.place s)) : RC b0 g0 (n + 1) .stat := by
 intro W w S l b f a h hb hg he ha hne; simp only [rArgs, Option.some.injEq, Prod.mk.injEq] at he; obtain ⟨rfl, rfl⟩ := he; exact stat_step dA dK dX dC dP h hb hg hne
theorem decl_rc {b0 g0 : Bool} {n : Nat} (dK : ∀ m, m ≤ n → RC b0 false m .block) : RC b0 g0 (n + 1) .decl := by
 intro W w S l b f a h hb hg he ha hne; simp only [rArgs, Option.some.injEq, Prod.mk.injEq] at he; obtain ⟨rfl, rfl⟩ := he; exact decl_step dK h hb hg hne
theorem bad_expr (n : Nat) : RC true false n .expr := rc_fuel (n := 1) (expr_rc rc_none)
theorem bad_place (n : Nat) (s : ByteArray) : RC true false n (.place s) := rc_fuel (n := 1) (place_rc rc_none)
theorem bad_call (n : Nat) (s : ByteArray) : RC true false n (.call s) := rc_fuel (n := 1) (call_rc fun _ _ => rc_none)
theorem bad_asked (n : Nat) : RC true false n .asked := rc_fuel (n := 1) (asked_rc (bad_expr 0))
theorem bad_unary (n : Nat) : RC true false n .unary := rc_fuel (n := 1) (unary_rc rc_none rc_none (fun _ => rc_none) (fun s => bad_place 0 s))
theorem far_bound {b0 g0 : Bool} {n k : Nat} (hk : 3 < k) : RC b0 g0 n (.bound k) := by
 intro W w S l b f a h hb hg he ha hne; have : k ≤ 3 := ha; omega
theorem bad_bound (n k : Nat) : RC true false n (.bound k) := by
 have step : ∀ k, RC true false 0 (.bound (k + 1)) → RC true false 0 (.bound k) := fun k h => rc_fuel (n := 1) (bound_rc (bad_unary 0) h fun _ _ => rc_none)
 have h4 : RC true false 0 (.bound 4) := far_bound (by decide); have h3 : RC true false 0 (.bound 3) := step 3 h4; have h2 : RC true false 0 (.bound 2) := step 2 h3; have h1 : RC true false 0 (.bound 1) := step 1 h2; have h0 : RC true false 0 (.bound 0) := step 0 h1
 have hz : RC true false 0 (.bound k) := by
  match k with
  | 0 => exact @h0
  | 1 => exact @h1
  | 2 => exact @h2
  | 3 => exact @h3
  | k + 4 => exact @far_bound true false 0 (k + 4) (by omega)
 exact @rc_fuel false 0 n (.bound k) @hz
theorem bad_block (n : Nat) : RC true false n .block := rc_fuel (n := 1) (block_rc fun _ _ => rc_none)
theorem bad_stat (n : Nat) : RC true false n .stat := rc_fuel (n := 1) (stat_rc rc_none (bad_block 0) (bad_expr 0) (bad_call 0) (bad_place 0))
theorem bad_decl (n : Nat) : RC true false n .decl := rc_fuel (n := 1) (decl_rc fun m _ => bad_block m)
theorem bad_all (n : Nat) (X : NT) : RC true false n X := by
 cases X with
 | expr => exact bad_expr n
 | bound k => exact bad_bound n k
 | unary => exact bad_unary n
 | asked => exact bad_asked n
 | place s => exact bad_place n s
 | call s => exact bad_call n s
 | block => exact bad_block n
 | stat => exact bad_stat n
 | decl => exact bad_decl n
 | _ =>
  intro W w S l b f a h hb hg he ha hne; cases he
theorem rc_zero (X : NT) : RC false false 0 X := by
 intro W w S l b f a h hb hg he ha hne; cases b with
 | true => exact bad_all 0 X f a h (fun _ => rfl) hg he ha hne
 | false => exact absurd rfl hne
theorem rc_all (n : Nat) : ∀ m, m ≤ n → ∀ X, RC false false m X := by
 induction n with
 | zero =>
  intro m hm X; obtain rfl : m = 0 := by omega
  exact rc_zero X
 | succ n ih =>
  intro m hm X; by_cases hmn : m ≤ n
  ·exact ih m hmn X
  ·obtain rfl : m = n + 1 := by omega
   have I : ∀ {b0 g0 : Bool} (m : Nat) (hm : m ≤ n) (X : NT), RC b0 g0 m X := fun m hm X => rc_weak (ih m hm X)
   have J : ∀ {b0 g0 : Bool} (X : NT), RC b0 g0 n X := fun X => I n (Nat.le_refl _) X
   cases X with
   | expr => exact expr_rc (J _)
   | bound k => exact bound_rc (J _) (J _) fun m hm => I m hm _
   | unary => exact unary_rc (J _) (J _) (fun _ => J _) (fun _ => J _)
   | asked => exact asked_rc (J _)
   | place s => exact place_rc (J _)
   | call s => exact call_rc fun m hm => I m hm _
   | block => exact block_rc fun m hm => I m hm _
   | stat => exact stat_rc (J _) (J _) (J _) (fun _ => J _) (fun _ => J _)
   | decl => exact decl_rc fun m hm => I m hm _
   | _ =>
    first
     | (intro W w S l b f a h hb hg he ha hne; cases he)
     | (intro f a h hb hg he ha hne; cases he)
theorem rc_any (n : Nat) (X : NT) : RC false false n X := rc_all n n (Nat.le_refl _) X
end synr
end Go.Proofs.YtpcihajmcejliabGreatDoor
namespace Go.Proofs.YtpcihajmcejliabGreatDoor
open Go.RowKit
mutual
/-- is a node neither too deep nor of too many? g: how many levels more may be; m: how many nodes there were -/
def weighF : Nat → Nd → Nat → Bool × Nat
 | 0, _, m => (false, m + 1)
 | g + 1, .mk _ _ _ l, m => if 500 < m + 1 then (false, m + 1) else weighL g l (m + 1)
def weighL : Nat → List Nd → Nat → Bool × Nat
 | _, [], m => (true, m)
 | g, x :: r, m => if (weighF g x m).1 = true then weighL g r (weighF g x m).2 else (false, (weighF g x m).2)
end
namespace synw
theorem weigh_le : ∀ g x m, (weighF g x m).2 ≤ max m 500 + 1 ∧ ((weighF g x m).1 = true → (weighF g x m).2 ≤ 500) := by
 intro g; induction g with
 | zero => intro x m; simp only [weighF]; exact ⟨by omega, fun h => by cases h⟩
 | succ g ih =>
  have hl : ∀ (l : List Nd) (m : Nat), m ≤ 500 → (weighL g l m).2 ≤ 501 ∧ ((weighL g l m).1 = true → (weighL g l m).2 ≤ 500) := by
   intro l; induction l with
   | nil => intro m hm; simp only [weighL]; exact ⟨by omega, fun _ => hm⟩
   | cons x r ih2 =>
    intro m hm; obtain ⟨h1, h2⟩ := ih x m; simp only [weighL]; split
    ·rename_i h; exact ih2 _ (h2 h)
    ·exact ⟨by simp only; omega, fun h => by cases h⟩
  intro x m; cases x with
  | mk k t n l =>
   simp only [weighF]; split
   ·exact ⟨by simp only; omega, fun h => by cases h⟩
   ·obtain ⟨h1, h2⟩ := hl l (m + 1) (by omega)
    exact ⟨by omega, h2⟩
theorem weighL_drop {g m k : Nat} {l : List Nd} (h : k < l.length) : weighL g (l.drop k) m = if (weighF g l[k] m).1 = true then weighL g (l.drop (k + 1)) (weighF g l[k] m).2 else (false, (weighF g l[k] m).2) := by
 rw [List.drop_eq_getElem_cons h]; simp only [weighL]
set_option maxRecDepth 100000 in
set_option maxHeartbeats 4000000 in
theorem weigh_any (g : Nat) : ∀ (x : Nd) (v : Value) (w : World) (M m : Nat) (d : Int) (H : Nat → Bool), NdAt (hide H w) x v → H M = true → Blk w M #[.int .i64 (m : Nat)] 3 → m ≤ 500 → d = 17 - (g : Int) → g ≤ 17 →
  Calls Tryz.prog 86 #[v, .int .i64 d, .pointer (some ⟨M, 0, none⟩)] w fun e w' => e = .returned (.bool (weighF g x m).1) ∧ Chg (fun i => i = M) w w' ∧ Blk w' M #[.int .i64 ((weighF g x m).2 : Nat)] 3 := by
 induction g with
 | zero =>
  intro x v w M m d H hx hH hM hm hd hg; obtain ⟨k, t, n, a, c, cc, rfl⟩ := nd_form hx; have hM1 := hM.alloc (.cells #[.int .i64 k, .string t, .int .i64 n, .slice a c cc] 66); have hc := hM1.cell 0; have hf := hM1.frozen 0; have hl := hM1.lt; simp at hc
  have hw1 : IntKind.i64.wrap ((m : Int) + 1) = ((m + 1 : Nat) : Int) := by rw [wrap_small _ (by omega) (by omega)]; rfl
  have hd2 : d = 17 := by omega
  subst hd2; have HM := Z_ hM1; have HC := Z_ ((Chg.refl (fun i => i = M) w).alloc (.cells #[.int .i64 k, .string t, .int .i64 n, .slice a c cc] 66)); simp only [weighF]; clear hM hM1 hx hd hg; go_enter Tryz.func86, Tryz.ntmps86
  go_wp2_with fail
  go_ret
  exact ⟨rfl, chg_set HC.out 0 _, HM.out.set 0 _⟩
 | succ g ih =>
  intro x v w M m d H hx hH hM hm hd hg; cases x with
  | mk k t n l =>
   rw [ndAt_mk] at hx; obtain ⟨a, cc, rfl, hx1, hx2, hx3, hx4⟩ := hx; obtain ⟨N, hN⟩ : ∃ N, l.length = N := ⟨_, rfl⟩; have hNm : N ≤ 9223372036854775807 := by unfold maxLen at hx2; omega
   have HN := Z_ hN; rw [hN]; have hM1 := hM.alloc (.cells #[.int .i64 k, .string t, .int .i64 n, .slice a N cc] 66); have hc := hM1.cell 0; have hf := hM1.frozen 0; have hlM := hM1.lt; simp at hc
   obtain ⟨m1, hm1e⟩ : ∃ q, m + 1 = q := ⟨_, rfl⟩; have hw1 : IntKind.i64.wrap ((m : Int) + 1) = (m1 : Int) := by rw [wrap_small _ (by omega) (by omega)]; omega
   have hdd : ¬ (16 < d) := by omega
   have hdw : IntKind.i64.wrap (d + 1) = 17 - (g : Int) := by rw [wrap_small _ (by omega) (by omega)]; omega
   have hdw2 : wrap64 (d + 1) = 17 - (g : Int) := by unfold wrap64; omega
   have hMw := hM.lt; have hcm : (w.setCell ⟨M, 0, none⟩ (.int .i64 (m1 : Nat))).cell? ⟨M, 0, none⟩ = some (.int .i64 (m1 : Nat)) := (hM.set 0 (.int .i64 (m1 : Nat))).cell 0; have hdd2 : decide (16 < d) = false := by simpa using hdd
   clear hd; obtain ⟨K, hK⟩ : ∃ K, w.heap.size = K := ⟨_, rfl⟩; rw [hK] at hMw; obtain ⟨R, hR⟩ : ∃ R, weighF (g + 1) (.mk k t n l) m = R := ⟨_, rfl⟩; rw [hR]; simp only [weighF] at hR; rw [hm1e] at hR; have HR := Z_ hR; have hM2 := (hM.set 0 (.int .i64 (m1 : Nat))).alloc (.cells #[.int .i64 k, .string t, .int .i64 n, .slice a N cc] 66); have hK2 := Blk.made (w.setCell ⟨M, 0, none⟩ (.int .i64 (m1 : Nat))) #[.int .i64 k, .string t, .int .i64 n, .slice a N cc] 66; rw [World.size_setCell, hK] at hK2; have hX := (chg_set (Chg.refl (fun i => i = M) w) 0 (.int .i64 (m1 : Nat))).alloc (.cells #[.int .i64 k, .string t, .int .i64 n, .slice a N cc] 66); have hK3 := hK2.cell; have HM2 := Z_ hM2; have HX := Z_ hX; have HI := Z_ (fun (u : World) (hC : Chg (fun i => i = M) w u) => hx4.keeps (keeps_chg hC fun i _ e => by rw [e]; exact hH) fun b o y => ndIn_keeps (keeps_chg hC fun i _ e => by rw [e]; exact hH) b o y)
   clear hM hM1 hR hM2 hX hx4 hK2 hN; by_cases hb : 500 < m1
   ·have HR2 := Z_ (show R = (false, m1) by have := HR.out; rw [if_pos hb] at this; exact this.symm)
    have hb2 : (500 : Int) < (m1 : Int) := by omega
    clear HR; go_enter Tryz.func86, Tryz.ntmps86
    go_wp2_with fail
    go_ret
    rw [HR2.out]; exact ⟨rfl, HX.out, HM2.out⟩
   ·have HR2 := Z_ (show weighL g l m1 = R by have := HR.out; rw [if_neg hb] at this; exact this)
    have hb2 : ¬ ((500 : Int) < (m1 : Int)) := by omega
    have hm1 : m1 ≤ 500 := by omega
    clear HR hb hm1e; go_enter Tryz.func86, Tryz.ntmps86
    go_wp2_with fail
    have HI2 := Z_ (HI.out _ HX.out); clear hc hf hlM hw1 hb2 hK3; have hX9 := HX.out; have hM9 := HM2.out; generalize (w.setCell ⟨M, 0, none⟩ (.int .i64 (m1 : Nat))).alloc (.cells #[.int .i64 k, .string t, .int .i64 n, .slice a N cc] 66) = w1 at *; go_loopw [25] (fun i wr => ∃ q mm : Nat, q ≤ N ∧ i = .int .i64 q ∧ mm ≤ 500 ∧ Hid (weighL g (l.drop q) mm = R) ∧ Chg (fun i => i = M) w wr ∧ Blk wr M #[.int .i64 (mm : Nat)] 3) (fun i _ => N - (intOf i).toNat)
    case atStart => exact ⟨0, m1, Nat.zero_le _, rfl, hm1, HR2, hX9, hM9⟩
    case round =>
     obtain ⟨q, mm, hq, rfl, hmm, hr, hC, hB⟩ := hrel; by_cases hlt : q < N
     ·have hql : q < l.length := by rw [HN.out]; exact hlt
      have hqi : (q : Int) < (N : Int) := by omega
      obtain ⟨b, o, rfl, hb, u, hu, hus, hcl⟩ := HI.out wr hC q hql; obtain ⟨k1, t1, n1, a1, l1, c1, rfl⟩ := nd_form hu; have q0 : wr.cell? ⟨b, o + q * 4, none⟩ = some (.int .i64 k1) := (keeps_bare H wr).2 _ _ ((hcl 0 (by decide)).trans rfl); have q1 : wr.cell? ⟨b, o + q * 4 + 1, none⟩ = some (.string t1) := (keeps_bare H wr).2 _ _ ((hcl 1 (by decide)).trans rfl); have q2 : wr.cell? ⟨b, o + q * 4 + 2, none⟩ = some (.int .i64 n1) := (keeps_bare H wr).2 _ _ ((hcl 2 (by decide)).trans rfl); have q3 : wr.cell? ⟨b, o + q * 4 + 3, none⟩ = some (.slice a1 l1 c1) := (keeps_bare H wr).2 _ _ ((hcl 3 (by decide)).trans rfl); have hE := (Chg.refl (fun _ => False) wr).alloc (.cells #[.int .i64 k1, .string t1, .int .i64 n1, .slice a1 l1 c1] 66); have HP := Z_ ((Blk.made wr #[.int .i64 k1, .string t1, .int .i64 n1, .slice a1 l1 c1] 66)); have hPc := HP.out.cell; have HIH := Z_ (ih l[q] _ (wr.alloc (.cells #[.int .i64 k1, .string t1, .int .i64 n1, .slice a1 l1 c1] 66)) M mm (17 - (g : Int)) H (ndAt_keeps (keeps_chg hE fun _ _ h => h.elim) _ _ hu) hH (hB.ext hE) hmm rfl (by omega))
      have hr2 := hr.out; rw [weighL_drop hql] at hr2; have hle := weigh_le g l[q] mm; generalize weighF g l[q] mm = Q at *; obtain ⟨qb, qm⟩ := Q; simp only at hr2 hle HIH; have HR3 := Z_ hr2; have HLE := Z_ hle; have HC3 := Z_ (hC.ext hE); clear hr hr2 hcl hu hE hC hB hle; go_wp2_with fail
      refine HIH.out.mono ?_
      rintro e w5 ⟨rfl, hC5, hB5⟩; have HC5 := Z_ (HC3.out.then hC5); have HB5 := Z_ hB5; clear hC5 hB5; cases qb with
      | true =>
       have HR4 := Z_ (show weighL g (l.drop (q + 1)) qm = R by have := HR3.out; simpa using this); have hqm := HLE.out.2 rfl; clear HR3 HLE; go_wp2_with fail
       go_roundw
       case rel => exact ⟨q + 1, qm, by omega, by go_num, hqm, HR4, HC5.out, HB5.out⟩
       case measure => simp [intOf]; omega
      | false =>
       have HR4 := Z_ (show R = (false, qm) by have := HR3.out; simpa using this.symm); clear HR3 HLE; go_wp2_with fail
       go_ret
       rw [HR4.out]; exact ⟨rfl, HC5.out, HB5.out⟩
     ·obtain rfl : q = N := by omega
      have hT := Z_ (show R = (true, mm) by have := hr.out; rw [List.drop_of_length_le (by rw [HN.out]; exact Nat.le_refl _)] at this; simp only [weighL] at this; exact this.symm); clear hr; go_wp2_with fail
      go_ret
      rw [hT.out]; exact ⟨rfl, hC, hB⟩
end synw
end Go.Proofs.YtpcihajmcejliabGreatDoor
namespace Go.Proofs.YtpcihajmcejliabGreatDoor
open Go.RowKit
mutual
def szF : Nd → Nat
 | .mk _ _ _ l => szL l + 1
def szL : List Nd → Nat
 | [] => 0
 | x :: r => szF x + szL r
end
mutual
def dpF : Nd → Nat
 | .mk _ _ _ l => dpL l + 1
def dpL : List Nd → Nat
 | [] => 0
 | x :: r => max (dpF x) (dpL r)
end
theorem sz_pos (x : Nd) : 1 ≤ szF x := by cases x; simp only [szF]; omega
theorem dp_pos (x : Nd) : 1 ≤ dpF x := by cases x; simp only [dpF]; omega
theorem weigh_law : ∀ g x m, m ≤ 500 → ((weighF g x m).1 = true ↔ dpF x ≤ g ∧ m + szF x ≤ 500) ∧ ((weighF g x m).1 = true → (weighF g x m).2 = m + szF x) := by
 intro g; induction g with
 | zero =>
  intro x m hm; have := dp_pos x; simp only [weighF]; exact ⟨⟨fun h => (by cases h), fun h => by omega⟩, fun h => by cases h⟩
 | succ g ih =>
  have hl : ∀ (l : List Nd) (m : Nat), m ≤ 500 → ((weighL g l m).1 = true ↔ dpL l ≤ g ∧ m + szL l ≤ 500) ∧ ((weighL g l m).1 = true → (weighL g l m).2 = m + szL l) := by
   intro l; induction l with
   | nil => intro m hm; simp only [weighL, dpL, szL]; exact ⟨⟨fun _ => ⟨by omega, by omega⟩, fun _ => trivial⟩, fun _ => rfl⟩
   | cons x r ih2 =>
    intro m hm; obtain ⟨h1, h2⟩ := ih x m hm; simp only [weighL, dpL, szL]; by_cases hx : (weighF g x m).1 = true
    ·rw [if_pos hx]
     have e := h2 hx; obtain ⟨h3, h4⟩ := h1.1 hx; rw [e]; obtain ⟨h5, h6⟩ := ih2 (m + szF x) h4; refine ⟨h5.trans ⟨fun h => ⟨by omega, by omega⟩, fun h => ⟨by omega, by omega⟩⟩, fun h => by rw [h6 h]; omega⟩
    ·rw [if_neg hx]
     refine ⟨⟨fun h => (by cases h), fun h => absurd (h1.2 ⟨by omega, by omega⟩) hx⟩, fun h => by cases h⟩
  intro x m hm; cases x with
  | mk k t n l =>
   simp only [weighF, dpF, szF]; by_cases h : 500 < m + 1
   ·rw [if_pos h]
    exact ⟨⟨fun h => (by cases h), fun h => by omega⟩, fun h => by cases h⟩
   ·rw [if_neg h]
    obtain ⟨h1, h2⟩ := hl l (m + 1) (by omega); exact ⟨h1.trans ⟨fun h => ⟨by omega, by omega⟩, fun h => ⟨by omega, by omega⟩⟩, fun h => by rw [h2 h]; omega⟩
theorem szL_drop {l : List Nd} {k : Nat} (h : k < l.length) : szL (l.drop k) = szF l[k] + szL (l.drop (k + 1)) := by
 rw [List.drop_eq_getElem_cons h]; simp only [szL]
theorem dpL_drop {l : List Nd} {k : Nat} (h : k < l.length) : dpL (l.drop k) = max (dpF l[k]) (dpL (l.drop (k + 1))) := by
 rw [List.drop_eq_getElem_cons h]; simp only [dpL]
end Go.Proofs.YtpcihajmcejliabGreatDoor
namespace Go.Proofs.YtpcihajmcejliabGreatDoor
open Go.RowKit
namespace synr
open synw
set_option maxRecDepth 100000 in
set_option maxHeartbeats 4000000 in
theorem many_any : ∀ (x : Nd) (v : Value) (w : World) (most : Nat) (H : Nat → Bool), NdAt (hide H w) x v → most ≤ 500 →
  Calls Tryz.prog 163 #[v, .int .i64 (most : Nat)] w fun e w' => e = .returned (.int .i64 (min (szF x) (most + 1) : Nat)) ∧ Ext w w' := by
 refine nd_ind fun k t n l ih v w most H hx hmo => ?_
 rw [ndAt_mk] at hx; obtain ⟨a, cc, rfl, hx1, hx2, hx3, hx4⟩ := hx; obtain ⟨N, hN⟩ : ∃ N, l.length = N := ⟨_, rfl⟩; have hNm : N ≤ 9223372036854775807 := by unfold maxLen at hx2; omega
 have HN := Z_ hN; rw [hN]; have HIH := Z_ ih; have HI := Z_ (fun (u : World) (hE : Ext w u) => hx4.keeps (keeps_chg hE fun i _ e => e.elim) fun b o y => ndIn_keeps (keeps_chg hE fun i _ e => e.elim) b o y); obtain ⟨R, hR⟩ : ∃ R, min (szF (.mk k t n l)) (most + 1) = R := ⟨_, rfl⟩; rw [hR]; have HR := Z_ hR; have hK := (Blk.made w #[.int .i64 k, .string t, .int .i64 n, .slice a N cc] 66).cell; have hE1 := (Chg.refl (fun _ => False) w).alloc (.cells #[.int .i64 k, .string t, .int .i64 n, .slice a N cc] 66); have HK := Z_ (Blk.made w #[.int .i64 k, .string t, .int .i64 n, .slice a N cc] 66); have HE1 := Z_ hE1; obtain ⟨P, hP⟩ : ∃ P, w.heap.size = P := ⟨_, rfl⟩; rw [hP] at HK; clear hR hx4 hN ih hE1 hK; go_enter Tryz.func163, Tryz.ntmps163
 go_upto_region 1 with (fail)
 generalize w.alloc (.cells #[.int .i64 k, .string t, .int .i64 n, .slice a N cc] 66) = w1 at *; go_wp2_with fail
 go_loopw [5, 6] (fun kk i wr => ∃ q m : Nat, q ≤ N ∧ kk = .int .i64 m ∧ i = .int .i64 q ∧ m ≤ most + 1 ∧ Hid (min (m + szL (l.drop q)) (most + 1) = R) ∧ Hid (Ext w wr) ∧ Hid (Blk wr P #[.int .i64 k, .string t, .int .i64 n, .slice a N cc] 66)) (fun _ i _ => N - (intOf i).toNat)
 case atStart => exact ⟨0, 1, Nat.zero_le _, rfl, rfl, by omega, by have := HR.out; simp only [szF] at this; rw [List.drop_zero, Nat.add_comm]; exact this, HE1, HK⟩
 clear HE1 HK
 case round =>
  obtain ⟨q, m, hq, rfl, rfl, hm, hr, HE, HK⟩ := hrel; have hc := HK.out.cell; by_cases hlt : q < N
  ·have hql : q < l.length := by rw [HN.out]; exact hlt
   have hqi : (q : Int) < (N : Int) := by omega
   have hqd : decide ((q : Int) < (N : Int)) = true := by simpa using hqi
   by_cases hmm : m ≤ most
   ·have hmi : decide ((m : Int) ≤ (most : Int)) = true := by simp; omega
    obtain ⟨b, o, rfl, hb, u, hu, hus, hcl⟩ := HI.out wr HE.out q hql; obtain ⟨k1, t1, n1, a1, l1, c1, rfl⟩ := nd_form hu; have q0 : wr.cell? ⟨b, o + q * 4, none⟩ = some (.int .i64 k1) := (keeps_bare H wr).2 _ _ ((hcl 0 (by decide)).trans rfl); have q1 : wr.cell? ⟨b, o + q * 4 + 1, none⟩ = some (.string t1) := (keeps_bare H wr).2 _ _ ((hcl 1 (by decide)).trans rfl); have q2 : wr.cell? ⟨b, o + q * 4 + 2, none⟩ = some (.int .i64 n1) := (keeps_bare H wr).2 _ _ ((hcl 2 (by decide)).trans rfl); have q3 : wr.cell? ⟨b, o + q * 4 + 3, none⟩ = some (.slice a1 l1 c1) := (keeps_bare H wr).2 _ _ ((hcl 3 (by decide)).trans rfl); have hsw : IntKind.i64.wrap ((most : Int) - (m : Int)) = ((most - m : Nat) : Int) := by rw [wrap_small _ (by omega) (by omega)]; omega
    have hsw2 : wrap64 ((most : Int) - (m : Int)) = ((most - m : Nat) : Int) := by unfold wrap64; omega
    have HC := Z_ (HIH.out l[q] (List.getElem_mem hql) _ wr (most - m) H hu (by omega)); have hr2 := hr.out; rw [szL_drop hql] at hr2; obtain ⟨z, hz⟩ : ∃ z, szF l[q] = z := ⟨_, rfl⟩; rw [hz] at hr2 HC; have hpw : IntKind.i64.wrap ((m : Int) + ((min z (most - m + 1) : Nat) : Int)) = ((m + min z (most - m + 1) : Nat) : Int) := by rw [wrap_small _ (by omega) (by omega)]; omega
    have HR3 := Z_ hr2; clear hr hr2 hcl hu hz; go_wp2_with fail
    refine HC.out.mono ?_
    rintro e w5 ⟨rfl, hE5⟩; have HE5 := Z_ (HE.out.ext hE5); have HK5 := Z_ (HK.out.ext hE5); clear hE5 HC HE HK q0 q1 q2 q3 hc; go_wp2_with fail
    go_roundw
    case rel => exact ⟨q + 1, m + min z (most - m + 1), by omega, by first | rfl | simp [hpw], by go_num, by omega, by have := HR3.out; show min (_ + szL (l.drop (q + 1))) (most + 1) = R; omega, HE5, HK5⟩
    case measure => simp [intOf]; omega
   ·have hmi : decide ((m : Int) ≤ (most : Int)) = false := by simp; omega
    have hT := Z_ (show R = m by have := hr.out; omega); clear hr; go_wp2_with fail
    go_ret
    refine ⟨?_, HE.out⟩; have e := hT.out; subst e; first | rfl | simp
  ·obtain rfl : q = N := by omega
   have hqd : decide ((q : Int) < (q : Int)) = false := by simp
   have hT := Z_ (show R = m by have := hr.out; rw [List.drop_of_length_le (by rw [HN.out]; exact Nat.le_refl _)] at this; simp only [szL] at this; omega); clear hr; go_wp2_with fail
   go_ret
   refine ⟨?_, HE.out⟩; have e := hT.out; subst e; first | rfl | simp
set_option maxRecDepth 100000 in
set_option maxHeartbeats 4000000 in
theorem deep_any : ∀ (x : Nd) (v : Value) (w : World) (most : Nat) (H : Nat → Bool), NdAt (hide H w) x v → most ≤ 500 →
  Calls Tryz.prog 164 #[v, .int .i64 (most : Nat)] w fun e w' => e = .returned (.int .i64 (min (dpF x) (most + 1) : Nat)) ∧ Ext w w' := by
 refine nd_ind fun k t n l ih v w most H hx hmo => ?_
 rw [ndAt_mk] at hx; obtain ⟨a, cc, rfl, hx1, hx2, hx3, hx4⟩ := hx; obtain ⟨N, hN⟩ : ∃ N, l.length = N := ⟨_, rfl⟩; have hNm : N ≤ 9223372036854775807 := by unfold maxLen at hx2; omega
 have HN := Z_ hN; rw [hN]; have HIH := Z_ ih; have HI := Z_ (fun (u : World) (hE : Ext w u) => hx4.keeps (keeps_chg hE fun i _ e => e.elim) fun b o y => ndIn_keeps (keeps_chg hE fun i _ e => e.elim) b o y); obtain ⟨R, hR⟩ : ∃ R, min (dpF (.mk k t n l)) (most + 1) = R := ⟨_, rfl⟩; rw [hR]; have HR := Z_ hR; have hK := (Blk.made w #[.int .i64 k, .string t, .int .i64 n, .slice a N cc] 66).cell; have hE1 := (Chg.refl (fun _ => False) w).alloc (.cells #[.int .i64 k, .string t, .int .i64 n, .slice a N cc] 66); have HK := Z_ (Blk.made w #[.int .i64 k, .string t, .int .i64 n, .slice a N cc] 66); have HE1 := Z_ hE1; obtain ⟨P, hP⟩ : ∃ P, w.heap.size = P := ⟨_, rfl⟩; rw [hP] at HK; clear hR hx4 hN ih hE1 hK; go_enter Tryz.func164, Tryz.ntmps164
 go_upto_region 1 with (fail)
 generalize w.alloc (.cells #[.int .i64 k, .string t, .int .i64 n, .slice a N cc] 66) = w1 at *; go_wp2_with fail
 go_loopw [5, 6] (fun kk i wr => ∃ q m : Nat, q ≤ N ∧ kk = .int .i64 m ∧ i = .int .i64 q ∧ m ≤ most ∧ Hid (max m (min (dpL (l.drop q)) most) + 1 = R) ∧ Hid (Ext w wr) ∧ Hid (Blk wr P #[.int .i64 k, .string t, .int .i64 n, .slice a N cc] 66)) (fun _ i _ => N - (intOf i).toNat)
 case atStart => exact ⟨0, 0, Nat.zero_le _, rfl, rfl, by omega, by have := HR.out; simp only [dpF] at this; show max 0 (min (dpL (l.drop 0)) most) + 1 = R; rw [List.drop_zero]; omega, HE1, HK⟩
 clear HE1 HK
 case round =>
  obtain ⟨q, m, hq, rfl, rfl, hm, hr, HE, HK⟩ := hrel; have hc := HK.out.cell; by_cases hlt : q < N
  ·have hql : q < l.length := by rw [HN.out]; exact hlt
   have hqi : (q : Int) < (N : Int) := by omega
   have hqd : decide ((q : Int) < (N : Int)) = true := by simpa using hqi
   by_cases hmm : 0 < most
   ·have hmi : decide ((m : Int) ≤ (most : Int)) = true := by simp; omega
    have hm0 : decide ((0 : Int) < (most : Int)) = true := by simp; omega
    obtain ⟨b, o, rfl, hb, u, hu, hus, hcl⟩ := HI.out wr HE.out q hql; obtain ⟨k1, t1, n1, a1, l1, c1, rfl⟩ := nd_form hu; have q0 : wr.cell? ⟨b, o + q * 4, none⟩ = some (.int .i64 k1) := (keeps_bare H wr).2 _ _ ((hcl 0 (by decide)).trans rfl); have q1 : wr.cell? ⟨b, o + q * 4 + 1, none⟩ = some (.string t1) := (keeps_bare H wr).2 _ _ ((hcl 1 (by decide)).trans rfl); have q2 : wr.cell? ⟨b, o + q * 4 + 2, none⟩ = some (.int .i64 n1) := (keeps_bare H wr).2 _ _ ((hcl 2 (by decide)).trans rfl); have q3 : wr.cell? ⟨b, o + q * 4 + 3, none⟩ = some (.slice a1 l1 c1) := (keeps_bare H wr).2 _ _ ((hcl 3 (by decide)).trans rfl); have hsw : IntKind.i64.wrap ((most : Int) - 1) = ((most - 1 : Nat) : Int) := by rw [wrap_small _ (by omega) (by omega)]; omega
    have hsw2 : wrap64 ((most : Int) - 1) = ((most - 1 : Nat) : Int) := by unfold wrap64; omega
    have HC := Z_ (HIH.out l[q] (List.getElem_mem hql) _ wr (most - 1) H hu (by omega)); have hr2 := hr.out; rw [dpL_drop hql] at hr2; obtain ⟨z, hz⟩ : ∃ z, dpF l[q] = z := ⟨_, rfl⟩; rw [hz] at hr2 HC; have hpw : min z (most - 1 + 1) = min z most := by omega
    rw [hpw] at HC; obtain ⟨y, hy⟩ : ∃ y, min z most = y := ⟨_, rfl⟩; rw [hy] at HC; have HY := Z_ hy; clear hpw hy; have HR3 := Z_ hr2; clear hr hr2 hcl hu hz; go_wp2_with fail
    refine HC.out.mono ?_
    rintro e w5 ⟨rfl, hE5⟩; have HE5 := Z_ (HE.out.ext hE5); have HK5 := Z_ (HK.out.ext hE5); clear hE5 HC HE HK q0 q1 q2 q3 hc; go_wp2_with fail
    go_roundw
    case rel => exact ⟨q + 1, max m y, by omega, congrArg (Value.int .i64) (by omega), by go_num, by have := HY.out; omega, by have := HR3.out; have := HY.out; show max (max m y) (min (dpL (l.drop (q + 1))) most) + 1 = R; omega, HE5, HK5⟩
    case measure => simp [intOf]; omega
   ·have hm0 : decide ((0 : Int) < (most : Int)) = false := by simp; omega
    have hT := Z_ (show R = m + 1 by have := hr.out; omega); clear hr; go_wp2_with fail
    go_ret
    refine ⟨?_, HE.out⟩; have e := hT.out; subst e; first | rfl | simp
  ·obtain rfl : q = N := by omega
   have hqd : decide ((q : Int) < (q : Int)) = false := by simp
   have hT := Z_ (show R = m + 1 by have := hr.out; rw [List.drop_of_length_le (by rw [HN.out]; exact Nat.le_refl _)] at this; simp only [dpL] at this; omega); clear hr; go_wp2_with fail
   go_ret
   refine ⟨?_, HE.out⟩; have e := hT.out; subst e; first | rfl | simp
set_option maxRecDepth 100000 in
set_option maxHeartbeats 4000000 in
theorem fits_any {x : Nd} {v : Value} {w : World} {H : Nat → Bool} (hx : NdAt (hide H w) x v) :
  Calls Tryz.prog 92 #[v] w fun e w' => e = .returned (.bool (weighF 16 x 0).1) ∧ Ext w w' := by
 obtain ⟨k, t, n, a, c, cc, rfl⟩ := nd_form hx; have hE1 := (Chg.refl (fun _ => False) w).alloc (.cells #[.int .i64 k, .string t, .int .i64 n, .slice a c cc] 66); have HK := Z_ (Blk.made w #[.int .i64 k, .string t, .int .i64 n, .slice a c cc] 66); have HX := Z_ (fun (u : World) (hE : Ext w u) => ndAt_keeps (keeps_chg (M := H) hE fun i _ e => e.elim) _ _ hx); obtain ⟨P, hP⟩ : ∃ P, w.heap.size = P := ⟨_, rfl⟩; rw [hP] at HK; have hlaw := (weigh_law 16 x 0 (by omega)).1; rw [Nat.zero_add] at hlaw; have HLA := Z_ hlaw; have HE1 := Z_ hE1; have hmo := many_any x _ _ 500 H (HX.out _ hE1) (by omega); obtain ⟨R, hR⟩ : ∃ R, (weighF 16 x 0).1 = R := ⟨_, rfl⟩; rw [hR]; have HR := Z_ hR; have HM := Z_ hmo; clear hR hmo hlaw hx hE1; go_enter Tryz.func92, Tryz.ntmps92
 go_upto_region 1 with (fail)
 generalize w.alloc (.cells #[.int .i64 k, .string t, .int .i64 n, .slice a c cc] 66) = w1 at *; have hc := HK.out.cell; obtain ⟨y, hy⟩ : ∃ y, min (szF x) (500 + 1) = y := ⟨_, rfl⟩; rw [hy] at HM; have HY := Z_ hy; clear hy; go_wp2_with fail
 refine HM.out.mono ?_
 rintro e w2 ⟨rfl, hE2⟩; have HE2 := Z_ (HE1.out.ext hE2); have hc2 := (HK.out.ext hE2).cell; clear hE2 hc HM HE1; by_cases h5 : y ≤ 500
 ·have hg2 : ¬ ((y : Int) > 500) := by omega
  have hg3 : decide ((500 : Int) < (y : Int)) = false := by simp; omega
  have hd := deep_any x _ w2 16 H (HX.out _ HE2.out) (by omega); obtain ⟨d, hdd⟩ : ∃ d, min (dpF x) (16 + 1) = d := ⟨_, rfl⟩; rw [hdd] at hd; have HD := Z_ hd
  have hT : decide ((d : Int) ≤ 16) = R := by
   rw [← HR.out]; have := HY.out; cases h : (weighF 16 x 0).1 with
   | true => have := HLA.out.1 h; simp; omega
   | false =>
    have : ¬ (dpF x ≤ 16 ∧ szF x ≤ 500) := fun q => by rw [HLA.out.2 q] at h; cases h
    simp; omega
  have HT := Z_ hT; clear hd hdd hT; go_wp2_with fail
  refine HD.out.mono ?_
  rintro e w3 ⟨rfl, hE3⟩; have HE3 := Z_ (HE2.out.ext hE3); clear hE3 HD; go_wp2_with fail
  go_ret
  exact ⟨by first | exact ret_bool HT.out | (rw [← HT.out]; first | rfl | simp), HE3.out⟩
 ·have hg2 : (y : Int) > 500 := by omega
  have hg3 : decide ((500 : Int) < (y : Int)) = true := by simp; omega
  have hT : R = false := by
   rw [← HR.out]; have := HY.out; cases h : (weighF 16 x 0).1 with
   | true => have := HLA.out.1 h; omega
   | false => rfl
  have HT := Z_ hT; clear hT; go_wp2_with fail
  go_ret
  exact ⟨ret_bool HT.out.symm, HE2.out⟩
end synr
end Go.Proofs.YtpcihajmcejliabGreatDoor
namespace Go.Proofs.YtpcihajmcejliabGreatDoor
open Go.RowKit
def Nd.kd : Nd → Int
 | .mk k _ _ _ => k
def Nd.tx : Nd → ByteArray
 | .mk _ t _ _ => t
def Nd.nm : Nd → Int
 | .mk _ _ m _ => m
structure ImpOk (x : Nd) : Prop where
 kd : x.kd = 2
 nm : x.nm = 0
 kids : x.kids = []
structure VarOk (x : Nd) : Prop where
 kd : x.kd = 3
 nm : 0 ≤ x.nm ∧ x.nm ≤ 3
 kids : x.kids = [] ∨ ∃ y, x.kids = [y] ∧ 0 ≤ y.nm ∧ y.nm < 9223372036854775808
structure ProcOk (x : Nd) : Prop where
 kd : x.kd = 4
 nm : 0 ≤ x.nm ∧ x.nm ≤ 11
 kids : ∃ ps b, x.kids = ps ++ [b] ∧ ∀ p ∈ ps, 0 ≤ p.nm ∧ p.nm ≤ 1
def DeclOk (x : Nd) : Prop := ImpOk x ∨ VarOk x ∨ ProcOk x
def varOf (x : Nd) : FVar := ⟨x.tx, decide (2 ≤ x.nm % 4), x.nm % 2, match x.kids with
 | [] => 0
 | y :: _ => y.nm⟩
def procOf (x : Nd) : FProc := ⟨x.tx, decide (2 ≤ x.nm % 4), x.kids.dropLast.map Nd.nm, x.nm % 2, decide (4 ≤ x.nm), x.nm / 8⟩
def isImp (x : Nd) : Bool := decide (x.kd = 2)
def isVar (x : Nd) : Bool := decide (x.kd = 3)
def isProc (x : Nd) : Bool := decide (x.kd = 4)
def impsF (l : List Nd) : List ByteArray := (l.filter isImp).map Nd.tx
def varsF (l : List Nd) : List FVar := (l.filter isVar).map varOf
def procsF (l : List Nd) : List FProc := (l.filter isProc).map procOf
def Nd.key (x : Nd) : List UInt8 := x.tx.data.toList
def parF (p : Nat) : Nat → List (List UInt8) → List Nd → Int × Nat
 | _, _, [] => (0, 0)
 | j, seen, x :: r => if seen.contains x.key = true then (5, p + 1 + j) else parF p (j + 1) (seen ++ [x.key]) r
def declF (x : Nd) (p : Nat) : Int × Nat :=
 if x.kd = 3 then match x.kids with
  | [] => (0, 0)
  | y :: _ => if 1 ≤ y.nm ∧ y.nm ≤ 64 then (0, 0) else (6, p)
 else if 5 < x.kids.dropLast.length then (1, p) else parF p 0 [] x.kids.dropLast
def lookF (modn : ByteArray) : List Nd → List (List UInt8) → List (List UInt8) → Nat → Int × Nat
 | [], _, _, _ => (0, 0)
 | x :: r, imps, names, p =>
  if x.kd = 2 then (if imps.contains x.key = true then (5, p) else if x.tx = modn then (5, p) else if 5 ≤ imps.length then (1, p) else lookF modn r (imps ++ [x.key]) names (p + szF x))
  else if names.contains x.key = true then (5, p) else if 20 ≤ names.length then (1, p) else if (declF x p).1 = 0 then lookF modn r imps (names ++ [x.key]) (p + szF x) else declF x p
namespace ofm
open synm
theorem lab_ok {l r : List Tk} {b : Int} (h : pLabel l = .got b r) : 0 ≤ b ∧ b ≤ 1 := by
 unfold pLabel at h; split at h
 ·injection h with h1 _; omega
 ·obtain ⟨_, _, _, h2⟩ := got_bind h
  injection h2 with h1 _; omega
theorem params_ok : ∀ (n : Nat) (s : ByteArray) (pub : Int) (acc : List Nd) (l : List Tk) (x : Nd) (r : List Tk), (∀ p ∈ acc, 0 ≤ p.nm ∧ p.nm ≤ 1) → 0 ≤ pub → pub ≤ 2 → prs n (.params s pub acc) l = .got x r → ProcOk x := by
 intro n; induction n with
 | zero => intro s pub acc l x r _ _ _ h; cases h
 | succ n ih =>
  intro s pub acc l x r hacc h0 h2 h
  have hdone : ∀ (acc : List Nd) (l : List Tk), (∀ p ∈ acc, 0 ≤ p.nm ∧ p.nm ≤ 1) → ((pNeed sClose l).bind fun _ l => (pLabel l).bind fun b l =>
    if isB l [sGives] = true then (pLabel l.tail).bind fun g l => (prs n .block l).bind fun x l => .got (.mk 4 s (pub + b + (4 + 4 * g)) (acc ++ [x])) l
    else (prs n .block l).bind fun x l => .got (.mk 4 s (pub + b) (acc ++ [x])) l) = Out.got x r → ProcOk x := by
   intro acc l hacc h; obtain ⟨_, l1, _, h⟩ := got_bind h; obtain ⟨b, l2, hb, h⟩ := got_bind h; have hb := lab_ok hb; split at h
   ·obtain ⟨g, l3, hg, h⟩ := got_bind h
    have hg := lab_ok hg; obtain ⟨y, l4, _, h⟩ := got_bind h; injection h with h1 _
    subst h1; exact ⟨rfl, ⟨by show 0 ≤ pub + b + (4 + 4 * g); omega, by show pub + b + (4 + 4 * g) ≤ 11; omega⟩, acc, y, rfl, hacc⟩
   ·obtain ⟨y, l4, _, h⟩ := got_bind h
    injection h with h1 _
    subst h1; exact ⟨rfl, ⟨by show 0 ≤ pub + b; omega, by show pub + b ≤ 11; omega⟩, acc, y, rfl, hacc⟩
  simp only [prs] at h; split at h
  ·exact hdone _ _ hacc h
  ·obtain ⟨b, l1, hb, h⟩ := got_bind h
   obtain ⟨p, l2, _, h⟩ := got_bind h; have hb := lab_ok hb
   have hacc2 : ∀ q ∈ acc ++ [Nd.mk 5 p b []], 0 ≤ q.nm ∧ q.nm ≤ 1 := by
    intro q hq; rw [List.mem_append, List.mem_singleton] at hq; rcases hq with hq | rfl
    ·exact hacc q hq
    ·exact hb
   split at h
   ·exact ih _ _ _ _ _ _ hacc2 h0 h2 h
   ·exact hdone _ _ hacc2 h
theorem tks_tail {l : List Tk} (h : ∀ t ∈ l, TkOk t) : ∀ t ∈ l.tail, TkOk t := fun t ht => h t (List.mem_of_mem_tail ht)
theorem need_sub {s : ByteArray} {l r : List Tk} {u : Unit} (h : pNeed s l = .got u r) (ho : ∀ t ∈ l, TkOk t) : ∀ t ∈ r, TkOk t := by
 unfold pNeed at h; split at h
 ·injection h with _ h2
  subst h2; exact tks_tail ho
 ·cases h
theorem name_sub {s : ByteArray} {l r : List Tk} (h : pName l = .got s r) (ho : ∀ t ∈ l, TkOk t) : ∀ t ∈ r, TkOk t := by
 cases l with
 | nil => cases h
 | cons t q =>
  simp only [pName] at h; split at h
  ·injection h with _ h2
   subst h2; exact tks_tail ho
  ·cases h
theorem num_ok {x : Nd} {l r : List Tk} (h : pNumber l = .got x r) : ∃ t, t ∈ l.head? ∧ t.kind = 2 ∧ x = .mk 15 noText (valOf t.text) [] := by
 cases l with
 | nil => cases h
 | cons t q =>
  simp only [pNumber] at h; split at h
  ·rename_i hk
   injection h with h1 _
   exact ⟨t, rfl, hk, h1.symm⟩
  ·cases h
theorem lab_sub {b : Int} {l r : List Tk} (h : pLabel l = .got b r) (ho : ∀ t ∈ l, TkOk t) : ∀ t ∈ r, TkOk t := by
 unfold pLabel at h; split at h
 ·injection h with _ h2
  subst h2; exact tks_tail ho
 ·obtain ⟨_, l2, h1, h2⟩ := got_bind h
  have := need_sub h1 ho; injection h2 with _ h2
  subst h2; exact this
theorem sub_suf {l r : List Tk} (h : r <:+ l) (ho : ∀ t ∈ l, TkOk t) : ∀ t ∈ r, TkOk t := fun t ht => ho t (h.subset ht)
theorem tail_suf (l : List Tk) : l.tail <:+ l := List.tail_suffix l
theorem need_suf {s : ByteArray} {l r : List Tk} {u : Unit} (h : pNeed s l = .got u r) : r <:+ l := by
 unfold pNeed at h; split at h
 ·injection h with _ h2
  subst h2; exact tail_suf l
 ·cases h
theorem name_suf {s : ByteArray} {l r : List Tk} (h : pName l = .got s r) : r <:+ l := by
 cases l with
 | nil => cases h
 | cons t q =>
  simp only [pName] at h; split at h
  ·injection h with _ h2
   subst h2; exact tail_suf (t :: q)
  ·cases h
theorem num_suf {x : Nd} {l r : List Tk} (h : pNumber l = .got x r) : r <:+ l := by
 cases l with
 | nil => cases h
 | cons t q =>
  simp only [pNumber] at h; split at h
  ·injection h with _ h2
   subst h2; exact tail_suf (t :: q)
  ·cases h
theorem lab_suf {b : Int} {l r : List Tk} (h : pLabel l = .got b r) : r <:+ l := by
 unfold pLabel at h; split at h
 ·injection h with _ h2
  subst h2; exact tail_suf l
 ·obtain ⟨_, l2, h1, h2⟩ := got_bind h
  have := need_suf h1; injection h2 with _ h2
  subst h2; exact this
theorem whole_suf {s : ByteArray} {l r : List Tk} (h : pWhole l = .got s r) : r <:+ l := by
 unfold pWhole at h; obtain ⟨y, q, h1, h2⟩ := got_bind h; have a1 := name_suf h1; split at h2
 ·obtain ⟨z, q2, h3, h4⟩ := got_bind h2
  have a2 := name_suf h3; injection h4 with _ h5
  subst h5; exact a2.trans ((tail_suf q).trans a1)
 ·injection h2 with _ h5
  subst h5; exact a1
theorem semi_suf {l r : List Tk} {x y : Nd} (h : semi x l = .got y r) : r <:+ l := by
 unfold semi at h; obtain ⟨z, q2, h3, h4⟩ := got_bind h; have := need_suf h3; injection h4 with _ h5
 subst h5; exact this
def Suf {α : Type} (l : List Tk) (o : Out α) : Prop := ∀ x r, o = .got x r → r <:+ l
theorem Suf.mono {α : Type} {l l1 : List Tk} {o : Out α} (h : Suf l1 o) (h1 : l1 <:+ l) : Suf l o := fun x r e => (h x r e).trans h1
theorem tail_in {r l : List Tk} (h : r <:+ l) : r.tail <:+ l := (tail_suf r).trans h
theorem suf_got {α : Type} {l r : List Tk} (x : α) (h : r <:+ l) : Suf l (.got x r) := fun y q e => by
 injection e with _ e2
 subst e2; exact h
theorem suf_bind {α β : Type} {l : List Tk} {o : Out α} {f : α → List Tk → Out β} (h : Suf l o) (hf : ∀ y l1, l1 <:+ l → Suf l (f y l1)) : Suf l (o.bind f) := fun x r e => by
 obtain ⟨y, q, h1, h2⟩ := got_bind e; exact hf y q (h y q h1) x r h2
theorem suf_ite {α : Type} {l : List Tk} {p : Prop} [Decidable p] {a b : Out α} (ha : Suf l a) (hb : Suf l b) : Suf l (if p then a else b) := by
 split
 ·exact ha
 ·exact hb
theorem suf_need {l l1 : List Tk} {s : ByteArray} (h : l1 <:+ l) : Suf l (pNeed s l1) := fun _ _ e => (need_suf e).trans h
theorem suf_name {l l1 : List Tk} (h : l1 <:+ l) : Suf l (pName l1) := fun _ _ e => (name_suf e).trans h
theorem suf_num {l l1 : List Tk} (h : l1 <:+ l) : Suf l (pNumber l1) := fun _ _ e => (num_suf e).trans h
theorem suf_lab {l l1 : List Tk} (h : l1 <:+ l) : Suf l (pLabel l1) := fun _ _ e => (lab_suf e).trans h
theorem suf_whole {l l1 : List Tk} (h : l1 <:+ l) : Suf l (pWhole l1) := fun _ _ e => (whole_suf e).trans h
theorem suf_semi {l l1 : List Tk} {x : Nd} (h : l1 <:+ l) : Suf l (semi x l1) := fun _ _ e => (semi_suf e).trans h
theorem prs_suf_all (n : Nat) : ∀ (X : NT) (l : List Tk), Suf l (prs n X l) := by
 induction n with
 | zero => intro X l x r h; cases X <;> cases h
 | succ n ih =>
  intro X l; have h0 : l <:+ l := List.suffix_refl l; cases X <;> simp only [prs]
  case decl =>
   cases isB l [sPub]
   ·simp only [Bool.false_eq_true, ↓reduceIte]
    repeat' first
     | exact suf_need (by assumption)
     | exact suf_name (by assumption)
     | exact suf_num (tail_in (by assumption))
     | exact suf_lab (by assumption)
     | exact suf_semi (by assumption)
     | exact (ih _ _).mono (tail_in (by assumption))
     | refine suf_ite ?_ ?_
     | refine suf_bind ?_ fun _ _ _ => ?_
   ·simp only [↓reduceIte]
    have h1 := tail_in h0
    repeat' first
     | exact suf_need (by assumption)
     | exact suf_name (by assumption)
     | exact suf_num (tail_in (by assumption))
     | exact suf_lab (by assumption)
     | exact suf_semi (by assumption)
     | exact (ih _ _).mono (tail_in (by assumption))
     | refine suf_ite ?_ ?_
     | refine suf_bind ?_ fun _ _ _ => ?_
  all_goals repeat' first
   | exact suf_got _ (by assumption)
   | exact suf_got _ (tail_in (by assumption))
   | exact suf_need (by assumption)
   | exact suf_name (by assumption)
   | exact suf_name (tail_in (by assumption))
   | exact suf_num (by assumption)
   | exact suf_num (tail_in (by assumption))
   | exact suf_lab (by assumption)
   | exact suf_lab (tail_in (by assumption))
   | exact suf_whole (by assumption)
   | exact suf_whole (tail_in (by assumption))
   | exact suf_semi (by assumption)
   | exact (ih _ _).mono (by assumption)
   | exact (ih _ _).mono (tail_in (by assumption))
   | refine suf_ite ?_ ?_
   | refine suf_bind ?_ fun _ _ _ => ?_
theorem prs_suf (n : Nat) (X : NT) (l : List Tk) (x : Nd) (r : List Tk) (h : prs n X l = .got x r) : r <:+ l := prs_suf_all n X l x r h
theorem prs_sub (n : Nat) (X : NT) (l : List Tk) (x : Nd) (r : List Tk) (ho : ∀ t ∈ l, TkOk t) (h : prs n X l = .got x r) : ∀ t ∈ r, TkOk t := sub_suf (prs_suf n X l x r h) ho
theorem decl_ok (n : Nat) (l : List Tk) (x : Nd) (r : List Tk) (ho : ∀ t ∈ l, TkOk t) (h : prs n .decl l = .got x r) : DeclOk x := by
 cases n with
 | zero => cases h
 | succ n =>
  simp only [prs] at h; generalize hl : (if isB l [sPub] = true then l.tail else l) = l1 at h; generalize hp : (if isB l [sPub] = true then (2 : Int) else 0) = pub at h; have hp2 : 0 ≤ pub ∧ pub ≤ 2 := by rw [← hp]; split <;> omega
  have ho1 : ∀ t ∈ l1, TkOk t := by rw [← hl]; split; exact tks_tail ho; exact ho
  split at h
  ·cases n with
   | zero => cases h
   | succ n =>
    simp only [prs] at h; obtain ⟨s, l2, _, h⟩ := got_bind h; obtain ⟨_, l3, _, h⟩ := got_bind h; exact .inr (.inr (params_ok _ _ _ _ _ _ _ (fun p hp => by cases hp) hp2.1 hp2.2 h))
  ·obtain ⟨b, l2, hb, h⟩ := got_bind h
   have hb2 := lab_ok hb; have ho2 := lab_sub hb ho1; obtain ⟨s, l3, hs, h⟩ := got_bind h; have ho3 := name_sub hs ho2
   have hsemi : ∀ (y : Nd) (q : List Tk), semi y q = Out.got x r → x = y := by
    intro y q h; obtain ⟨_, l5, _, h⟩ := got_bind h; injection h with h1 _
    exact h1.symm
   split at h
   ·obtain ⟨y, l4, hy, h⟩ := got_bind h
    obtain ⟨t, ht, hk, rfl⟩ := num_ok hy; obtain ⟨_, l5, _, h⟩ := got_bind h; have e := hsemi _ _ h; subst e; have hv := (tks_tail ho3 t (List.mem_of_mem_head? ht)).num hk; refine .inr (.inl ⟨rfl, ⟨by show 0 ≤ b + pub; omega, by show b + pub ≤ 3; omega⟩, .inr ⟨_, rfl, by show (0 : Int) ≤ valOf t.text; unfold valOf; omega, by show valOf t.text < _; unfold valOf; omega⟩⟩)
   ·have e := hsemi _ _ h
    subst e; exact .inr (.inl ⟨rfl, ⟨by show 0 ≤ b + pub; omega, by show b + pub ≤ 3; omega⟩, .inl rfl⟩)
theorem decls_ok : ∀ (n : Nat) (s : ByteArray) (acc : List Nd) (l : List Tk) (x : Nd) (r : List Tk), (∀ t ∈ l, TkOk t) → (∀ p ∈ acc, DeclOk p) → prs n (.decls s acc) l = .got x r → ∃ kids, x = .mk 1 s 0 kids ∧ ∀ p ∈ kids, DeclOk p := by
 intro n; induction n with
 | zero => intro s acc l x r _ _ h; cases h
 | succ n ih =>
  intro s acc l x r ho hacc h; simp only [prs] at h; split at h
  ·injection h with h1 _
   exact ⟨acc, h1.symm, hacc⟩
  ·obtain ⟨y, l2, hy, h⟩ := got_bind h
   refine ih s (acc ++ [y]) l2 x r ?_ ?_ h
   ·exact prs_sub _ _ _ _ _ ho hy
   ·intro q hq
    rw [List.mem_append, List.mem_singleton] at hq; rcases hq with hq | rfl
    ·exact hacc q hq
    ·exact decl_ok _ _ _ _ ho hy
theorem imports_ok : ∀ (n : Nat) (s : ByteArray) (acc : List Nd) (l : List Tk) (x : Nd) (r : List Tk), (∀ t ∈ l, TkOk t) → (∀ p ∈ acc, DeclOk p) → prs n (.imports s acc) l = .got x r → ∃ kids, x = .mk 1 s 0 kids ∧ ∀ p ∈ kids, DeclOk p := by
 intro n; induction n with
 | zero => intro s acc l x r _ _ h; cases h
 | succ n ih =>
  intro s acc l x r ho hacc h; simp only [prs] at h; split at h
  ·obtain ⟨y, l2, hy, h⟩ := got_bind h
   have ho2 := name_sub hy (tks_tail ho); obtain ⟨_, l3, h3, h⟩ := got_bind h; have ho3 := need_sub h3 ho2; refine ih s (acc ++ [.mk 2 y 0 []]) l3 x r ho3 ?_ h
   intro q hq; rw [List.mem_append, List.mem_singleton] at hq; rcases hq with hq | rfl
   ·exact hacc q hq
   ·exact .inl ⟨rfl, rfl, rfl⟩
  ·exact decls_ok _ _ _ _ _ _ ho hacc h
theorem module_ok (n : Nat) (l : List Tk) (x : Nd) (r : List Tk) (ho : ∀ t ∈ l, TkOk t) (h : prs n .module l = .got x r) : ∃ s kids, x = .mk 1 s 0 kids ∧ ∀ p ∈ kids, DeclOk p := by
 cases n with
 | zero => cases h
 | succ n =>
  simp only [prs] at h; obtain ⟨_, l1, h1, h⟩ := got_bind h; have ho1 := need_sub h1 ho; obtain ⟨s, l2, h2, h⟩ := got_bind h; have ho2 := name_sub h2 ho1; obtain ⟨_, l3, h3, h⟩ := got_bind h; obtain ⟨kids, h4, h5⟩ := imports_ok _ _ _ _ _ _ (need_sub h3 ho2) (fun p hp => by cases hp) h; exact ⟨s, kids, h4, h5⟩
end ofm
end Go.Proofs.YtpcihajmcejliabGreatDoor
namespace Go.Proofs.YtpcihajmcejliabGreatDoor
open Go.RowKit
namespace ofw
open synw
theorem szL_le (l : List Nd) (q : Nat) : szL (l.drop q) ≤ szL l := by
 induction l generalizing q with
 | nil => simp
 | cons x r ih =>
  cases q with
  | zero => simp
  | succ q =>
   have := ih q; simp only [List.drop_succ_cons, szL]; omega
set_option maxRecDepth 100000 in
set_option maxHeartbeats 4000000 in
theorem weight_any : ∀ (x : Nd) (v : Value) (w : World) (H : Nat → Bool), NdAt (hide H w) x v → szF x ≤ 100000 →
  Calls Tryz.prog 186 #[v] w fun e w' => e = .returned (.int .i64 (szF x : Nat)) ∧ Ext w w' := by
 refine nd_ind fun k t n l ih v w H hx hmo => ?_
 rw [ndAt_mk] at hx; obtain ⟨a, cc, rfl, hx1, hx2, hx3, hx4⟩ := hx; obtain ⟨N, hN⟩ : ∃ N, l.length = N := ⟨_, rfl⟩; have hNm : N ≤ 9223372036854775807 := by unfold maxLen at hx2; omega
 have HN := Z_ hN; rw [hN]; have HIH := Z_ ih; have HI := Z_ (fun (u : World) (hE : Ext w u) => hx4.keeps (keeps_chg hE fun i _ e => e.elim) fun b o y => ndIn_keeps (keeps_chg hE fun i _ e => e.elim) b o y); obtain ⟨R, hR⟩ : ∃ R, szF (.mk k t n l) = R := ⟨_, rfl⟩; rw [hR] at hmo ⊢; have HR := Z_ hR; have HLL := Z_ (szL_le l); have hE1 := (Chg.refl (fun _ => False) w).alloc (.cells #[.int .i64 k, .string t, .int .i64 n, .slice a N cc] 66); have HK := Z_ (Blk.made w #[.int .i64 k, .string t, .int .i64 n, .slice a N cc] 66); have HE1 := Z_ hE1; obtain ⟨P, hP⟩ : ∃ P, w.heap.size = P := ⟨_, rfl⟩; rw [hP] at HK; clear hR hx4 hN ih hE1; go_enter Tryz.func186, Tryz.ntmps186
 go_upto_region 1 with (fail)
 generalize w.alloc (.cells #[.int .i64 k, .string t, .int .i64 n, .slice a N cc] 66) = w1 at *; have hc := HK.out.cell; go_wp2_with fail
 clear hc; go_loopw [3, 9] (fun kk i wr => ∃ q m : Nat, q ≤ N ∧ kk = .int .i64 m ∧ i = .int .i64 q ∧ Hid (m + szL (l.drop q) = R) ∧ Hid (Ext w wr) ∧ Hid (Blk wr P #[.int .i64 k, .string t, .int .i64 n, .slice a N cc] 66)) (fun _ i _ => N - (intOf i).toNat)
 case atStart => exact ⟨0, 1, Nat.zero_le _, rfl, rfl, by have := HR.out; simp only [szF] at this; rw [List.drop_zero]; show 1 + szL l = R; omega, HE1, HK⟩
 clear HE1 HK
 case round =>
  obtain ⟨q, m, hq, rfl, rfl, hr, HE, HK⟩ := hrel; by_cases hlt : q < N
  ·have hql : q < l.length := by rw [HN.out]; exact hlt
   have hqi : (q : Int) < (N : Int) := by omega
   have hqd : decide ((q : Int) < (N : Int)) = true := by simpa using hqi
   obtain ⟨b, o, rfl, hb, u, hu, hus, hcl⟩ := HI.out wr HE.out q hql; obtain ⟨k1, t1, n1, a1, l1, c1, rfl⟩ := nd_form hu; have q0 : wr.cell? ⟨b, o + q * 4, none⟩ = some (.int .i64 k1) := (keeps_bare H wr).2 _ _ ((hcl 0 (by decide)).trans rfl); have q1 : wr.cell? ⟨b, o + q * 4 + 1, none⟩ = some (.string t1) := (keeps_bare H wr).2 _ _ ((hcl 1 (by decide)).trans rfl); have q2 : wr.cell? ⟨b, o + q * 4 + 2, none⟩ = some (.int .i64 n1) := (keeps_bare H wr).2 _ _ ((hcl 2 (by decide)).trans rfl); have q3 : wr.cell? ⟨b, o + q * 4 + 3, none⟩ = some (.slice a1 l1 c1) := (keeps_bare H wr).2 _ _ ((hcl 3 (by decide)).trans rfl); have hr2 := hr.out; rw [szL_drop hql] at hr2; have HE4 := Z_ (HE.out.alloc (.cells #[.int .i64 k1, .string t1, .int .i64 n1, .slice a1 l1 c1] 66)); have HK4 := Z_ (HK.out.alloc (.cells #[.int .i64 k1, .string t1, .int .i64 n1, .slice a1 l1 c1] 66))
   have HC := Z_ (HIH.out l[q] (List.getElem_mem hql) _ (wr.alloc (.cells #[.int .i64 k1, .string t1, .int .i64 n1, .slice a1 l1 c1] 66)) H (ndAt_keeps (keeps_chg ((Chg.refl (fun _ => False) wr).alloc _) fun i _ e => e.elim) _ _ hu) (by omega)); obtain ⟨z, hz⟩ : ∃ z, szF l[q] = z := ⟨_, rfl⟩; rw [hz] at hr2 HC; have hpw : IntKind.i64.wrap ((m : Int) + (z : Int)) = ((m + z : Nat) : Int) := by rw [wrap_small _ (by omega) (by omega)]; omega
   have HR3 := Z_ hr2; clear hr hr2 hcl hu hz; go_upto_region 5 with (fail)
   have hc5 := (Blk.made wr #[.int .i64 k1, .string t1, .int .i64 n1, .slice a1 l1 c1] 66).cell; generalize wr.alloc (.cells #[.int .i64 k1, .string t1, .int .i64 n1, .slice a1 l1 c1] 66) = wz at *; go_wp2_with fail
   refine HC.out.mono ?_
   rintro e w5 ⟨rfl, hE5⟩; have HE5 := Z_ (HE4.out.ext hE5); have HK5 := Z_ (HK4.out.ext hE5); clear hE5 HC HE HK HE4 HK4 q0 q1 q2 q3 hc5; go_wp2_with fail
   go_roundw
   case rel => exact ⟨q + 1, m + z, by omega, by first | rfl | simp [hpw], by go_num, by have := HR3.out; show m + z + szL (l.drop (q + 1)) = R; omega, HE5, HK5⟩
   case measure => simp [intOf]; omega
  ·obtain rfl : q = N := by omega
   have hqd : decide ((q : Int) < (q : Int)) = false := by simp
   have hT := Z_ (show R = m by have := hr.out; rw [List.drop_of_length_le (by rw [HN.out]; exact Nat.le_refl _)] at this; simp only [szL] at this; omega); clear hr; go_wp2_with fail
   go_ret
   refine ⟨?_, HE.out⟩; have e := hT.out; subst e; first | rfl | simp
end ofw
end Go.Proofs.YtpcihajmcejliabGreatDoor
namespace Go.Proofs.YtpcihajmcejliabGreatDoor
open Go.RowKit
def varV (f : FVar) : Value := .agg #[.string f.name, .bool f.pub, .int .i64 f.label, .int .i64 f.size]
def OVar (x : FVar) (v : Value) (_ : World) : Prop := v = varV x ∧ x.name.size ≤ 10000
def OProc (x : FProc) (v : Value) (w : World) : Prop := ∃ a c, v = .agg #[.string x.name, .bool x.pub, .slice a x.params.length c, .int .i64 x.writes, .bool x.gives, .int .i64 x.given] ∧ AllIn 1 IntIn w a x.params ∧ x.params.length ≤ c ∧ c ≤ maxLen ∧ x.name.size ≤ 10000
def OStr (x : ByteArray) (v : Value) (_ : World) : Prop := v = .string x ∧ x.size ≤ 10000
def OInt (x : Int) (v : Value) (_ : World) : Prop := v = .int .i64 x
def StrIn (w : World) (b o : Nat) (x : ByteArray) : Prop := w.cell? ⟨b, o, none⟩ = some (.string x) ∧ x.size ≤ 10000
namespace ofp
theorem info_int : (Tryz.prog.info? 3).map (fun i => (i.zero, i.size, i.bytes)) = some (some (.int .i64 0), 1, 8) := by kernel_rfl
theorem info_str : (Tryz.prog.info? 9).map (fun i => (i.zero, i.size, i.bytes)) = some (some (.string ⟨#[]⟩), 1, 16) := by kernel_rfl
theorem info_var : (Tryz.prog.info? 82).map (fun i => (i.zero, i.size, i.bytes)) = some (some (.agg #[.string ⟨#[]⟩, .bool false, .int .i64 0, .int .i64 0]), 4, 40) := by kernel_rfl
theorem info_proc : (Tryz.prog.info? 179).map (fun i => (i.zero, i.size, i.bytes)) = some (some (.agg #[.string ⟨#[]⟩, .bool false, .slice none 0 0, .int .i64 0, .bool false, .int .i64 0]), 6, 72) := by kernel_rfl
theorem intIn_keeps {w w' : World} (hk : Keeps w w') {b o : Nat} {x : Int} (h : IntIn w b o x) : IntIn w' b o x := hk.2 _ _ h
theorem varIn_keeps {w w' : World} (hk : Keeps w w') {b o : Nat} {x : FVar} (h : VarIn w b o x) : VarIn w' b o x := ⟨hk.2 _ _ h.1, hk.2 _ _ h.2.1, hk.2 _ _ h.2.2.1, hk.2 _ _ h.2.2.2.1, h.2.2.2.2⟩
theorem int_keeps (x : Int) (u : Value) (w w' : World) (_ : Keeps w w') (h : OInt x u w) : OInt x u w' := h
theorem str_keeps (x : ByteArray) (u : Value) (w w' : World) (_ : Keeps w w') (h : OStr x u w) : OStr x u w' := h
theorem var_keeps (x : FVar) (u : Value) (w w' : World) (_ : Keeps w w') (h : OVar x u w) : OVar x u w' := h
theorem proc_keeps (x : FProc) (u : Value) (w w' : World) (hk : Keeps w w') (h : OProc x u w) : OProc x u w' := by
 obtain ⟨a, c, e, h1, h2⟩ := h; exact ⟨a, c, e, h1.keeps hk fun _ _ _ => intIn_keeps hk, h2⟩
theorem int_lies (w : World) (b o : Nat) (x : Int) (u : Value) (h : OInt x u w) (_ : u.cells.size = 1) (hc : ∀ i, i < 1 → w.cell? ⟨b, o + i, none⟩ = u.cells[i]?) : IntIn w b o x := by
 cases h
 exact hc 0 (by decide)
theorem str_lies (w : World) (b o : Nat) (x : ByteArray) (u : Value) (h : OStr x u w) (_ : u.cells.size = 1) (hc : ∀ i, i < 1 → w.cell? ⟨b, o + i, none⟩ = u.cells[i]?) : StrIn w b o x := by
 obtain ⟨rfl, h1⟩ := h; exact ⟨hc 0 (by decide), h1⟩
theorem small (n : Nat) (h : n ≤ 10000) : n ≤ maxLen := by unfold maxLen; omega
theorem var_lies (w : World) (b o : Nat) (x : FVar) (u : Value) (h : OVar x u w) (_ : u.cells.size = 4) (hc : ∀ i, i < 4 → w.cell? ⟨b, o + i, none⟩ = u.cells[i]?) : VarIn w b o x := by
 obtain ⟨rfl, h1⟩ := h; exact ⟨hc 0 (by decide), hc 1 (by decide), hc 2 (by decide), hc 3 (by decide), small _ h1⟩
theorem proc_lies (w : World) (b o : Nat) (x : FProc) (u : Value) (h : OProc x u w) (_ : u.cells.size = 6) (hc : ∀ i, i < 6 → w.cell? ⟨b, o + i, none⟩ = u.cells[i]?) : ProcIn w b o x := by
 obtain ⟨a, c, rfl, h1, h2, h3, h4⟩ := h; exact ⟨hc 0 (by decide), hc 1 (by decide), ⟨a, c, hc 2 (by decide), h1, h2, h3⟩, hc 3 (by decide), hc 4 (by decide), hc 5 (by decide), small _ h4⟩
def PushG {α : Type} (B : World → Value → Value → List α → Prop) (V : α → Value → World → Prop) (base : Nat) (T : TypeId) (row : Value) (acc : List α) (x : α) (v : Value) : List Value → World → Prop
 | [], u => B u row row acc ∧ V x v (hide (rowHid base row) u)
 | [s], u => B u row row acc ∧ V x v (hide (rowHid base row) u) ∧ ∃ g, s = .slice (some ⟨g, 0, none⟩) 1 1 ∧ Blk u g v.cells T ∧ row.ownBlock ≠ some g
 | [_, r], u => B u row r (acc ++ [x]) ∧ ∃ g c, r = .slice (some ⟨g, 0, none⟩) (acc.length + 1) c
 | [_, r, _], u => B u r r (acc ++ [x])
 | _, _ => False
theorem PushG.B {α : Type} {B : World → Value → Value → List α → Prop} {V : α → Value → World → Prop} {base : Nat} {T : TypeId} {row : Value} {acc : List α} {x : α} {v : Value} {vs : List Value} {u : World} (h : PushG B V base T row acc x v vs u) (hv : vs.length ≤ 1) : B u row row acc := by
 match vs, hv, h with
 | [], _, h => exact h.1
 | [_], _, h => exact h.1
theorem PushG.any {α : Type} {B : World → Value → Value → List α → Prop} {V : α → Value → World → Prop} {base : Nat} {T : TypeId} {row : Value} {acc : List α} {x : α} {v : Value} {vs : List Value} {u : World} (h : PushG B V base T row acc x v vs u) : ∃ rN r l, B u rN r l := by
 match vs, h with
 | [], h => exact ⟨_, _, _, h.1⟩
 | [_], h => exact ⟨_, _, _, h.1⟩
 | [_, _], h => exact ⟨_, _, _, h.1⟩
 | [_, _, _], h => exact ⟨_, _, _, h⟩
theorem grown_own {u u' : World} {own : Option Nat} (hg : u.grownBy u' own) : Chg (fun i => own = some i) u u' :=
 ⟨hg.os, hg.tape, hg.output, hg.size, fun i hi hn => hg.block i hi (by first | exact hn | exact fun e => hn e.symm)⟩
theorem pushedG {α : Type} {k : Nat} {E : TypeId} {V : α → Value → World → Prop} {u w4 : World} {B : Nat} {row : Value} {acc : List α} {x : α} {v : Value} {us : List Value} {o : Obj} {g c : Nat} (hV : ∀ x u w w', Keeps w w' → V x u w → V x u w') (hu1 : us.length = acc.length) (hu3 : ∀ j (h : j < acc.length) (h' : j < us.length), V acc[j] us[j] (hide (rowHid B row) u) ∧ us[j].cells.size = k) (hx : V x v (hide (rowHid B row) u)) (hk : v.cells.size = k)
  (hown : w4.ownsRow B E k (.slice (some ⟨g, 0, none⟩) (acc.length + 1) c) (acc.length + 1) (us.flatMap (fun u => u.cells.toList) ++ v.cells.toList)) (hgrow : (u.alloc o).grownBy w4 row.ownBlock) (hat : row.ownBlock = some g ∨ g = u.heap.size + 1) :
  Grow k E V B w4 (.slice (some ⟨g, 0, none⟩) (acc.length + 1) c) (acc ++ [x]) ∧ Chg (fun i => row.ownBlock = some i) u w4 := by
 have hC : Chg (fun i => row.ownBlock = some i) u w4 := (((Chg.refl (fun _ => False) u).alloc o).weak (fun _ _ h => h.elim)).then (grown_own hgrow)
 refine ⟨Grow.push hV hu1 hu3 hx hk hown hC.size (fun i hi hn => hC.block i hi hn) (fun i hi => ?_), hC⟩
 have e : g = i := by simpa [Value.ownBlock] using hi
 subst e; rcases hat with h | h
 ·exact .inl h
 ·exact .inr (by omega)
theorem grow_slice {α : Type} {k : Nat} {E : TypeId} {V : α → Value → World → Prop} {B : Nat} {w : World} {row : Value} {acc : List α} (h : Grow k E V B w row acc) : ∃ a c, row = .slice a acc.length c ∧ (acc.length ≤ c ∧ c ≤ maxLen) := by
 obtain ⟨us, _, ho, _⟩ := h.ex; rcases ho.2 with ⟨rfl, h0⟩ | ⟨g, cap, cur, rfl, _, _, h1, h2, _⟩
 ·exact ⟨_, _, by rw [h0], by rw [h0]; exact ⟨Nat.le_refl _, by decide⟩⟩
 ·exact ⟨_, _, rfl, h1, h2⟩
theorem grow_own {α : Type} {k : Nat} {E : TypeId} {V : α → Value → World → Prop} {B : Nat} {w : World} {row : Value} {acc : List α} (h : Grow k E V B w row acc) : ∀ i, row.ownBlock = some i → B ≤ i ∧ i < w.heap.size := by
 obtain ⟨us, _, ho, _⟩ := h.ex; exact fun i e => World.ownsRow.lt ho i e
end ofp
end Go.Proofs.YtpcihajmcejliabGreatDoor
