/- What the reference's reader reads, in plain Lean: it goes on behind a fault, and tells at last. The walk of the reference's reader: a number, a truth, a text. The walk of the reference's reader: lists. -/
import Derived.Test.YtpcihajmcejliaaGreatDoorGetA
import Derived.Test.YtpcihajmcejliaaGreatDoorGetB
import Derived.Deep.RegionHeld3
import Derived.BigQuiet
import Derived.Deep.QuietTactic
import Derived.Deep.CutBlock
import Derived.Deep.DeepCutAuto
namespace Go.Proofs.YtpcihajmcejliaaGreatDoor
open Go.RowKit
/-- a reader's state: what is left, or that it has failed -/
abbrev St := Option (List UInt8)
abbrev Qrs (α : Type) := St → α × St
def qOf {α : Type} (p : Prs α) (x : α) : Qrs α := fun s => match s with
  | none => (x, none)
  | some l => match p l with
    | none => (x, none)
    | some (n, r) => (n, some r)
def qNum : Qrs Int := qOf rdNum 0
def qTruth : Qrs Bool := qOf rdTruth false
def qText : Qrs ByteArray := qOf rdText ⟨#[]⟩
def qMap {α β : Type} (q : Qrs α) (g : α → Qrs β) : Qrs β := fun s => g (q s).1 (q s).2
/-- a loop that ends where it has failed -/
def qLoop {α : Type} (q : Qrs α) : Nat → Qrs (List α)
  | 0, s => ([], s)
  | _ + 1, none => ([], none)
  | n + 1, some l => ((q (some l)).1 :: (qLoop q n (q (some l)).2).1, (qLoop q n (q (some l)).2).2)
def bad (n : Int) (s : St) : St := if n < 0 then none else s
/-- a list, whose length is told ahead; that it is below nought is told at the end of all -/
def qList {α β : Type} (q : Qrs α) (g : List α → Qrs β) : Qrs β := qMap qNum fun n => qMap (qLoop q n.toNat) fun xs s => ((g xs s).1, bad n (g xs s).2)
def qPlc : Qrs FPlc := qMap qText fun nm => qMap qNum fun n s => (⟨nm, n⟩, s)
def qPlaces {β : Type} (g : List FPlc → Qrs β) : Qrs β := qMap (qList qPlc fun xs s => (xs, s)) g
def qIns : Qrs Ins := qMap qNum fun op => qMap qNum fun a => qMap qNum fun b => qMap qNum fun c => qMap qNum fun n s => (⟨op, a, b, c, n⟩, s)
def qRel : Qrs FRel := qMap qNum fun n => qMap qNum fun k => qMap qText fun m => qMap qText fun t s => (⟨n, k, m, t⟩, s)
def qVar : Qrs FVar := qMap qText fun nm => qMap qTruth fun pb => qMap qNum fun lb => qMap qNum fun sz s => (⟨nm, pb, lb, sz⟩, s)
def qProc : Qrs FProc := qMap qText fun nm => qMap qTruth fun pb => qList qNum fun ps => qMap qNum fun wr => qMap qTruth fun gs => qMap qNum fun gv s => (⟨nm, pb, ps, wr, gs, gv⟩, s)
def qFace : Qrs FFace := qMap qText fun nm => qList qVar fun vs => qList qProc fun ps s => (⟨nm, vs, ps⟩, s)
def qObj : Qrs FObj := qMap qFace fun f => qList qFace fun im => qList qIns fun co => qList qRel fun re => qPlaces fun ps => qPlaces fun lo => qPlaces fun hi =>
  qMap qNum fun a => qMap qNum fun b => qMap qNum fun c => qMap qNum fun d s => (⟨f, im, co, re, ps, lo, hi, a, b, c, d⟩, s)
/-- the two readers agree: what the one reads the other reads; where the one stops the other has failed at last -/
structure Agree {α : Type} (p : Prs α) (q : Qrs α) : Prop where
  fail : (q none).2 = none
  yes : ∀ l x r, p l = some (x, r) → q (some l) = (x, some r)
  no : ∀ l, p l = none → (q (some l)).2 = none
namespace getr
theorem of_any {α : Type} (p : Prs α) (x : α) : Agree p (qOf p x) where
  fail := rfl
  yes l x r h := by simp only [qOf, h]
  no l h := by simp only [qOf, h]
theorem num : Agree rdNum qNum := of_any _ _
theorem map {α β : Type} {p : Prs α} {q : Qrs α} {f : α → Prs β} {g : α → Qrs β} (h : Agree p q) (hf : ∀ x, Agree (f x) (g x)) : Agree (rdMap p f) (qMap q g) where
  fail := by unfold qMap; rw [h.fail]; exact (hf _).fail
  yes l x r e := by
    unfold rdMap at e
    split at e
    · cases e
    · rename_i y r2 hy
      unfold qMap
      rw [h.yes _ _ _ hy]
      exact (hf y).yes _ _ _ e
  no l e := by
    unfold rdMap at e
    unfold qMap
    split at e
    · rename_i hy
      rw [h.no _ hy]
      exact (hf _).fail
    · rename_i y r2 hy
      rw [h.yes _ _ _ hy]
      exact (hf y).no _ e
theorem done {β : Type} (x : β) : Agree (fun l => some (x, l)) (fun s => (x, s)) where
  fail := rfl
  yes l y r e := by cases e; rfl
  no l e := by cases e
theorem loop_none {α : Type} (q : Qrs α) (n : Nat) : qLoop q n none = ([], none) := by cases n <;> rfl
theorem loop_yes {α : Type} {p : Prs α} {q : Qrs α} (h : Agree p q) (n : Nat) : ∀ l xs r, rdMany p n l = some (xs, r) → qLoop q n (some l) = (xs, some r) := by
  induction n with
  | zero => intro l xs r e; cases e; rfl
  | succ n ih =>
    intro l xs r e
    unfold rdMany at e
    split at e
    · cases e
    · rename_i y r2 hy
      split at e
      · cases e
      · rename_i ys r3 hys
        cases e
        rw [qLoop, h.yes _ _ _ hy]
        simp only
        rw [ih _ _ _ hys]
theorem loop_no {α : Type} {p : Prs α} {q : Qrs α} (h : Agree p q) (n : Nat) : ∀ l, rdMany p n l = none → (qLoop q n (some l)).2 = none := by
  induction n with
  | zero => intro l e; cases e
  | succ n ih =>
    intro l e
    unfold rdMany at e
    rw [qLoop]
    simp only
    split at e
    · rename_i hy
      rw [h.no _ hy, loop_none]
    · rename_i y r2 hy
      rw [h.yes _ _ _ hy]
      split at e
      · rename_i hys
        exact ih _ hys
      · cases e
/-- too many: the bytes do not suffice -/
theorem loop_long {α : Type} {p : Prs α} {q : Qrs α} (h : Agree p q) (hp : ∀ l x r, p l = some (x, r) → r.length + 8 ≤ l.length) (n : Nat) : ∀ l, l.length < 8 * n → (qLoop q n (some l)).2 = none := by
  induction n with
  | zero => intro l e; omega
  | succ n ih =>
    intro l e
    rw [qLoop]
    simp only
    cases hy : p l with
    | none => rw [h.no _ hy, loop_none]
    | some o =>
      obtain ⟨y, r⟩ := o
      rw [h.yes _ _ _ hy]
      have := hp _ _ _ hy
      exact ih r (by omega)
theorem bad_none (n : Int) : bad n none = none := by unfold bad; split <;> rfl
theorem list {α β : Type} {p : Prs α} {q : Qrs α} {f : List α → Prs β} {g : List α → Qrs β} (h : Agree p q) (hp : ∀ l x r, p l = some (x, r) → r.length + 8 ≤ l.length) (hf : ∀ x, Agree (f x) (g x)) : Agree (rdMap (rdItems p) f) (qList q g) where
  fail := by
    unfold qList qMap
    simp only
    rw [num.fail, loop_none]
    simp only
    rw [(hf _).fail, bad_none]
  yes l x r e := by
    unfold rdMap rdItems at e
    unfold qList qMap
    cases hn : rdNum l with
    | none => rw [hn] at e; cases e
    | some o =>
      obtain ⟨n, r1⟩ := o
      simp only
      rw [num.yes _ _ _ hn]
      rw [hn] at e
      simp only at e ⊢
      split at e
      · cases e
      · rename_i ys r2 hm
        split at hm
        · rename_i hc
          rw [loop_yes h _ _ _ _ hm]
          simp only
          rw [(hf ys).yes _ _ _ e]
          unfold bad
          rw [if_neg (by omega)]
        · cases hm
  no l e := by
    unfold rdMap rdItems at e
    unfold qList qMap
    cases hn : rdNum l with
    | none =>
      have h0 := num.no _ hn
      simp only
      rw [h0, loop_none]
      simp only
      rw [(hf _).fail, bad_none]
    | some o =>
      obtain ⟨n, r1⟩ := o
      simp only
      rw [num.yes _ _ _ hn]
      rw [hn] at e
      simp only at e ⊢
      by_cases h0 : n < 0
      · unfold bad
        rw [if_pos h0]
      · by_cases hl : n ≤ ((r1.length / 8 : Nat) : Int)
        · rw [if_pos ⟨by omega, hl⟩] at e
          split at e
          · rename_i hm
            rw [loop_no h _ _ hm, (hf _).fail, bad_none]
          · rename_i ys r2 hm
            rw [loop_yes h _ _ _ _ hm]
            simp only
            rw [(hf ys).no _ e, bad_none]
        · rw [loop_long h hp _ r1 (by omega), (hf _).fail, bad_none]
theorem list_map {α β : Type} {p : Prs α} {q : Qrs α} {f : List α → Prs β} {g : List α → Qrs β} (h : Agree p q) (hp : ∀ l x r, p l = some (x, r) → r.length + 8 ≤ l.length) (hf : ∀ x, Agree (f x) (g x)) : Agree (rdMap (rdItems p) f) (qMap (qList q fun xs s => (xs, s)) g) := by
  refine map (p := rdItems p) ?_ hf
  have e : rdItems p = rdMap (rdItems p) (fun xs l => some (xs, l)) := by
    funext l
    unfold rdMap
    cases rdItems p l with
    | none => rfl
    | some o => rfl
  rw [e]
  exact list h hp fun xs => done xs
theorem truth : Agree rdTruth qTruth := of_any _ _
theorem text : Agree rdText qText := of_any _ _
theorem plc : Agree rdPlc qPlc := map text fun _ => map num fun _ => done _
theorem ins : Agree rdIns qIns := map num fun _ => map num fun _ => map num fun _ => map num fun _ => map num fun _ => done _
theorem rel : Agree rdRel qRel := map num fun _ => map num fun _ => map text fun _ => map text fun _ => done _
theorem var : Agree rdVar qVar := map text fun _ => map truth fun _ => map num fun _ => map num fun _ => done _
theorem proc (hn : ∀ l x r, rdNum l = some (x, r) → r.length + 8 ≤ l.length) : Agree rdProc qProc := map text fun _ => map truth fun _ => list num hn fun _ => map num fun _ => map truth fun _ => map num fun _ => done _
end getr
end Go.Proofs.YtpcihajmcejliaaGreatDoor
namespace Go.Proofs.YtpcihajmcejliaaGreatDoor
open Go.RowKit
/-- where a state stands in the bytes -/
def Stands (L : List UInt8) (n : Nat) (b : Bool) (s : St) : Prop := n ≤ L.length ∧ match s with
  | none => b = true
  | some l => b = false ∧ l = L.drop n
/-- the reference's reader: the bytes, where it is, whether it has failed -/
structure RfAt (W w : World) (S : Nat) (L : List UInt8) (s : St) : Prop where
  ex : ∃ (v : Value) (n : Nat) (b : Bool), Blk w S #[v, .int .i64 n, .bool b] 143 ∧ BytesAt W L v ∧ Stands L n b s
  ext : Ext W w
  hS : W.heap.size ≤ S
theorem RfAt.chg {W w w' : World} {S : Nat} {L : List UInt8} {s : St} (h : RfAt W w S L s) {M : Nat → Prop} (hE : Chg M w w') (hn : ¬ M S) (hM : ∀ i, M i → W.heap.size ≤ i) : RfAt W w' S L s := by
  obtain ⟨v, n, b, hb, hv⟩ := h.ex
  exact ⟨⟨v, n, b, hb.chg hE hn, hv⟩, h.ext.trans hE (fun i hi hm => by have := hM i hm; omega), h.hS⟩
theorem RfAt.extend {W w w' : World} {S : Nat} {L : List UInt8} {s : St} (h : RfAt W w S L s) (hE : Ext w w') : RfAt W w' S L s := h.chg hE id fun _ h => h.elim
theorem RfAt.alloc {W w : World} {S : Nat} {L : List UInt8} {s : St} (h : RfAt W w S L s) (o : Obj) : RfAt W (w.alloc o) S L s := h.extend ((Chg.refl _ _).alloc o)
theorem RfAt.lt {W w : World} {S : Nat} {L : List UInt8} {s : St} (h : RfAt W w S L s) : S < w.heap.size := by obtain ⟨v, n, b, hb, -⟩ := h.ex; exact hb.lt
theorem RfAt.setFar {W w : World} {S : Nat} {L : List UInt8} {s : St} (h : RfAt W w S L s) {p : Addr} (hp : p.block ≠ S) (hW : W.heap.size ≤ p.block) (u : Value) : RfAt W (w.setCell p u) S L s :=
  h.chg ((Chg.refl (fun i => i = p.block) w).setCell (fun _ => rfl) _) (fun e => hp e.symm) (fun i hi => by omega)
/-- a step of the reader's own -/
theorem RfAt.step {W w w' : World} {S : Nat} {L : List UInt8} {s s' : St} (h : RfAt W w S L s) (hC : Chg (fun i => i = S) w w') {v : Value} {n : Nat} {b : Bool} (hb : Blk w' S #[v, .int .i64 n, .bool b] 143) (hv : BytesAt W L v) (hs : Stands L n b s') : RfAt W w' S L s' :=
  ⟨⟨v, n, b, hb, hv, hs⟩, h.ext.trans hC (fun i hi e => by have := h.hS; omega), h.hS⟩
theorem stands_none {L : List UInt8} {n : Nat} {b : Bool} (h : Stands L n b none) : n ≤ L.length ∧ b = true := h
theorem stands_some {L l : List UInt8} {n : Nat} {b : Bool} (h : Stands L n b (some l)) : n ≤ L.length ∧ b = false ∧ l = L.drop n := h
/-- what a reading call of the reference's comes to -/
def Rfs {α : Type} (V : α → Value → World → Prop) (W w : World) (S : Nat) (L : List UInt8) (q : α × St) (e : Ending) (w' : World) : Prop :=
  Chg (fun i => i = S) w w' ∧ RfAt W w' S L q.2 ∧ ∃ v, e = .returned v ∧ V q.1 v w'
namespace getr
theorem slice_run (a : Option Addr) (m c n p : Nat) (h : n ≤ p) (hp : p ≤ c) (w : World) :
    (Instr.slice 33 (.slice a m c) (some (.int .i64 n)) (some (.int .i64 p)) none).run Tryz.prog w = .ok (.slice (if c = n then a else a.map (·.add n)) (p - n) (c - n)) w := by
  have h0 : (0 : Int) ≤ (n : Int) := by omega
  have h3 : (0 : Int) ≤ (p : Int) := by omega
  have hsz : (sizeOf 5).run Tryz.prog w = .ok 1 w := by kernel_rfl
  simp [Instr.slice, Instr.sliceBounds, Instr.sliceBound, go_sem, h0, h3, h, hp, hsz]
theorem wrap_step (g : Int) (x : UInt8) : wrap64 (wrap64 (g * 256) + (x.toNat : Int)) = byteStep g x := by
  unfold byteStep wrap64
  rw [IntKind.wrap_i64]
  omega
set_option maxRecDepth 100000 in
set_option maxHeartbeats 4000000 in
theorem wide_any {W w : World} {S : Nat} {L : List UInt8} {s : St} (h : RfAt W w S L s) :
    Calls Tryz.prog 74 #[.pointer (some ⟨S, 0, none⟩)] w (Rfs (fun x v _ => v = .int .i64 x) W w S L (qNum s)) := by
  obtain ⟨v, n, b, hb, hv, hst⟩ := h.ex
  obtain ⟨a, c, rfl, h1, h2, h3⟩ := hv.ex
  unfold maxLen at h2
  have hc := hb.cell
  have hf := hb.frozen
  have hl := hb.lt
  obtain ⟨Q, hQ⟩ : ∃ Q, qNum s = Q := ⟨_, rfl⟩
  rw [hQ]
  cases s with
  | none =>
    obtain ⟨hn, rfl⟩ := stands_none hst
    have HF := Lib.hid (fun (k : Nat) => show Rfs (fun x v _ => v = .int .i64 x) W w S L Q (.returned (.int .i64 0)) ((w.drewN k).setCell ⟨S, 2, none⟩ (.bool true)) by
      subst hQ
      exact ⟨((Chg.refl (fun i => i = S) w).drewN k).setCell (fun _ => rfl) _, h.step (((Chg.refl (fun i => i = S) w).drewN k).setCell (fun _ => rfl) _) ((hb.drewN k).set 2 _) hv ⟨hn, rfl⟩, _, rfl, rfl⟩)
    clear h hb hv h3 hst hQ
    go_enter Tryz.func74, Tryz.ntmps74
    go_wp2_with fail
    go_quiet (fail)
    go_wp2_with fail
    go_ret
    exact HF.out _
  | some l =>
    obtain ⟨hn, rfl, rfl⟩ := stands_some hst
    by_cases h8 : 8 ≤ L.length - n
    · obtain ⟨m, hm⟩ : ∃ m, L.length = m := ⟨_, rfl⟩
      obtain ⟨d, hd⟩ : ∃ d, (L.drop n).take 8 = d := ⟨_, rfl⟩
      have hdl : d.length = 8 := by rw [← hd, List.length_take, List.length_drop]; omega
      have hQ2 : Q = (get8 d, some (L.drop (n + 8))) := by
        rw [← hQ, getr.num.yes (L.drop n) (get8 d) (L.drop (n + 8)) (by unfold rdNum; rw [if_neg (by rw [List.length_drop]; omega), hd, List.drop_drop])]
      have HF := Lib.hid (fun (k : Nat) => show Rfs (fun x v _ => v = .int .i64 x) W w S L Q (.returned (.int .i64 (get8 d))) ((w.drewN k).setCell ⟨S, 1, none⟩ (.int .i64 ((n : Int) + 8))) by
        subst hQ2
        rw [show (n : Int) + 8 = ((n + 8 : Nat) : Int) by omega]
        exact ⟨((Chg.refl (fun i => i = S) w).drewN k).setCell (fun _ => rfl) _, h.step (((Chg.refl (fun i => i = S) w).drewN k).setCell (fun _ => rfl) _) ((hb.drewN k).set 1 _) hv ⟨by omega, rfl, rfl⟩, _, rfl, rfl⟩)
      have HX := Lib.hid h.ext
      have HA : ∀ k, k < 8 → ∃ b o, a = some ⟨b, o, none⟩ ∧ w.cell? ⟨b, o + (n + k), none⟩ = some (.int .u8 ((d.getD k 0).toNat : Int)) := fun k hk => by
        obtain ⟨b, o, e, hb, hc⟩ := h3 (n + k) (by omega)
        have hc2 := ByteIn.ext HX.out hb hc
        unfold ByteIn at hc2
        rw [Nat.mul_one] at hc2
        refine ⟨b, o, e, ?_⟩
        rw [hc2, ← hd]
        simp [hk, List.getD, show n + k < L.length by omega]
      have HA := Lib.hid HA
      have HD := Lib.hid hdl
      rw [hm] at hc h1 h8 hn
      have HM := Lib.hid hm
      clear h hb hv h3 hst hQ hQ2 hd hdl hm HX
      go_enter Tryz.func74, Tryz.ntmps74
      go_wp2_with fail
      have hw : IntKind.i64.wrap ((m : Int) - (n : Int)) = ((m - n : Nat) : Int) := by rw [IntWalk.i64_in _ (by omega)]; omega
      have hd : decide (((m - n : Nat) : Int) < 8) = false := by simp; omega
      go_quiet (fail)
      clear hw hd
      go_wp2_with fail
      go_loopw [3, 4] (fun s3 s4 wr => ∃ k q : Nat, k ≤ 8 ∧ s4 = .int .i64 k ∧ s3 = .int .i64 (get8 (d.take k)) ∧ wr = w.drewN q) (fun _ s4 _ => 8 - (intOf s4).toNat)
      case atStart => exact ⟨0, _, Nat.zero_le _, rfl, rfl, rfl⟩
      case round =>
        obtain ⟨k, q, hk, rfl, rfl, rfl⟩ := hrel
        by_cases hlt : k < 8
        · obtain ⟨b, o, rfl, hx⟩ := HA.out k hlt
          have HT := Lib.hid (getm.get8_take d k (by rw [HD.out]; exact hlt))
          have hg : d.getD k 0 = d[k]'(by rw [HD.out]; exact hlt) := by simp [List.getD, HD.out, hlt]
          rw [hg] at hx
          clear hg
          generalize d[k]'(by rw [HD.out]; exact hlt) = x at *
          generalize get8 (d.take k) = g at *
          have hki : (k : Int) < 8 := by omega
          have hxk : (x.toNat : Int) < 256 := by have := x.toNat_lt; omega
          go_wp2_with fail
          have hw : IntKind.i64.wrap ((n : Int) + (k : Int)) = ((n + k : Nat) : Int) := by rw [IntWalk.i64_in _ (by omega)]; omega
          have hb0 : (0 : Int) ≤ ((n + k : Nat) : Int) := by omega
          have hb1 : ((n + k : Nat) : Int) < (m : Int) := by omega
          go_quiet (fail)
          clear hw hb0 hb1
          go_wp2_with fail
          go_roundw
          case rel => exact ⟨k + 1, q + nq, by omega, by go_num, by rw [HT.out, wrap_step], rfl⟩
          case measure => simp [intOf]; omega
        · obtain rfl : k = 8 := by omega
          rw [List.take_of_length_le (by rw [HD.out]; exact Nat.le_refl _)]
          have hn8 : (n : Int) + 8 ≤ (m : Int) := by omega
          go_wp2_with fail
          go_ret
          exact HF.out q
    · have hw0 : rdNum (L.drop n) = none := if_pos (by rw [List.length_drop]; omega)
      have HF := Lib.hid (fun (k : Nat) => show Rfs (fun x v _ => v = .int .i64 x) W w S L Q (.returned (.int .i64 0)) ((w.drewN k).setCell ⟨S, 2, none⟩ (.bool true)) by
        subst hQ
        unfold qNum qOf
        simp only [hw0]
        exact ⟨((Chg.refl (fun i => i = S) w).drewN k).setCell (fun _ => rfl) _, h.step (((Chg.refl (fun i => i = S) w).drewN k).setCell (fun _ => rfl) _) ((hb.drewN k).set 2 _) hv ⟨hn, rfl⟩, _, rfl, rfl⟩)
      clear h hb hv h3 hst hQ hw0
      go_enter Tryz.func74, Tryz.ntmps74
      go_wp2_with fail
      have hw : IntKind.i64.wrap ((L.length : Int) - (n : Int)) = ((L.length - n : Nat) : Int) := by rw [IntWalk.i64_in _ (by omega)]; omega
      have hd : decide (((L.length - n : Nat) : Int) < 8) = true := by simp; omega
      go_quiet (fail)
      clear hw hd
      go_wp2_with fail
      go_ret
      exact HF.out _
theorem number_any {W w : World} {S : Nat} {L : List UInt8} {s : St} (h : RfAt W w S L s) :
    Calls Tryz.prog 73 #[.pointer (some ⟨S, 0, none⟩)] w (Rfs (fun x v _ => v = .int .i64 x) W w S L (qNum s)) := by
  have HC := Lib.hid (wide_any h)
  generalize qNum s = Q at *
  obtain ⟨x, s'⟩ := Q
  clear h
  go_enter Tryz.func73, Tryz.ntmps73
  go_wp2_with fail
  refine HC.out.mono ?_
  rintro e w1 ⟨hC, hR, v, rfl, rfl⟩
  have HE := Lib.hid (And.intro hC hR)
  clear hC hR HC
  go_wp2_with fail
  go_ret
  exact ⟨HE.out.1, HE.out.2, _, rfl, rfl⟩
/-- it fails -/
theorem fail_step {W w : World} {S : Nat} {L : List UInt8} {s : St} (h : RfAt W w S L s) : RfAt W (w.setCell ⟨S, 2, none⟩ (.bool true)) S L none := by
  obtain ⟨v, n, b, hb, hv, hst⟩ := h.ex
  exact h.step ((Chg.refl (fun i => i = S) w).setCell (fun _ => rfl) _) (hb.set 2 _) hv ⟨hst.1, rfl⟩
set_option maxRecDepth 100000 in
set_option maxHeartbeats 1000000 in
theorem truth_any {W w : World} {S : Nat} {L : List UInt8} {s : St} (h : RfAt W w S L s) :
    Calls Tryz.prog 117 #[.pointer (some ⟨S, 0, none⟩)] w (Rfs (fun x v _ => v = .bool x) W w S L (qTruth s)) := by
  have HC := Lib.hid (wide_any h)
  have hT : ∀ x s', qNum s = (x, s') → (x = 0 → qTruth s = (false, s')) ∧ (x = 1 → qTruth s = (true, s')) ∧ (x ≠ 0 → x ≠ 1 → qTruth s = (false, none)) := fun x s' e => by
    unfold qNum qOf at e
    unfold qTruth qOf rdTruth
    cases s with
    | none => cases e; simp
    | some l =>
      simp only at e ⊢
      cases hp : rdNum l with
      | none => rw [hp] at e; cases e; simp
      | some o =>
        obtain ⟨n, r⟩ := o
        rw [hp] at e
        cases e
        refine ⟨fun h => by simp [h], fun h => by simp [h], fun h1 h2 => by simp [h1, h2]⟩
  generalize qTruth s = T at *
  generalize qNum s = Q at *
  obtain ⟨x, s'⟩ := Q
  obtain ⟨hT0, hT1, hT2⟩ := hT x s' rfl
  have HT := Lib.hid (And.intro hT0 (And.intro hT1 hT2))
  clear h hT hT0 hT1 hT2
  go_enter Tryz.func117, Tryz.ntmps117
  go_wp2_with fail
  refine HC.out.mono ?_
  rintro e w1 ⟨hC, hR, v, rfl, rfl⟩
  have HE := Lib.hid (And.intro hC hR)
  obtain ⟨v, n, b, hb, hv, hst⟩ := hR.ex
  have hSc := hb.cell
  have hSf := hb.frozen
  have hSl := hb.lt
  clear hC hR HC hb hv hst
  by_cases h0 : x = 0
  · have HR := Lib.hid (HT.out.1 h0)
    subst h0
    go_wp2_with fail
    go_ret
    rw [HR.out]
    exact ⟨HE.out.1, HE.out.2, _, rfl, rfl⟩
  · by_cases h1 : x = 1
    · have HR := Lib.hid (HT.out.2.1 h1)
      subst h1
      go_wp2_with fail
      go_ret
      rw [HR.out]
      exact ⟨HE.out.1, HE.out.2, _, rfl, rfl⟩
    · have HR := Lib.hid (HT.out.2.2 h0 h1)
      have d0 : (x != 0) = true := by simpa using h0
      have d1 : (x != 1) = true := by simpa using h1
      have d2 : (x == 1) = false := by simpa using h1
      go_wp2_with fail
      go_ret
      rw [HR.out]
      exact ⟨HE.out.1.setCell (p := ⟨S, 2, none⟩) (fun _ => rfl) _, fail_step HE.out.2, _, rfl, rfl⟩
set_option maxRecDepth 100000 in
set_option maxHeartbeats 4000000 in
theorem text_any {W w : World} {S : Nat} {L : List UInt8} {s : St} (h : RfAt W w S L s) (hs : L.length ≤ 100000000) :
    Calls Tryz.prog 75 #[.pointer (some ⟨S, 0, none⟩)] w (Rfs (fun x v _ => v = .string x ∧ x.size ≤ L.length) W w S L (qText s)) := by
  have HC := Lib.hid (number_any h)
  have hT : ∀ x s', qNum s = (x, s') → (s' = none → qText s = (⟨#[]⟩, none)) ∧ ∀ r, s' = some r → (0 ≤ x ∧ x ≤ r.length → qText s = (⟨(r.take x.toNat).toArray⟩, some (r.drop x.toNat))) ∧ (x < 0 ∨ r.length < x → qText s = (⟨#[]⟩, none)) := fun x s' e => by
    unfold qNum qOf at e
    unfold qText qOf rdText
    cases s with
    | none => cases e; simp
    | some l =>
      simp only at e ⊢
      cases hp : rdNum l with
      | none => rw [hp] at e; cases e; simp
      | some o =>
        obtain ⟨n, r⟩ := o
        rw [hp] at e
        cases e
        refine ⟨fun h => (by cases h), fun q hq => ?_⟩
        cases hq
        refine ⟨fun h => by simp [h], fun h => ?_⟩
        simp only
        rw [if_neg (by omega)]
  generalize qText s = T at *
  generalize qNum s = Q at *
  obtain ⟨x, s'⟩ := Q
  have HT := Lib.hid (hT x s' rfl)
  clear h hT
  go_enter Tryz.func75, Tryz.ntmps75
  go_wp2_with fail
  refine HC.out.mono ?_
  rintro e w1 ⟨hC, hR, v, rfl, rfl⟩
  have HE := Lib.hid (And.intro hC hR)
  obtain ⟨v, n, b, hb, hv, hst⟩ := hR.ex
  obtain ⟨a, c, rfl, h1, h2, h3⟩ := hv.ex
  unfold maxLen at h2
  have hSc := hb.cell
  have hSf := hb.frozen
  have hSl := hb.lt
  cases s' with
  | none =>
    obtain ⟨hn, rfl⟩ := stands_none hst
    have HF := Lib.hid (fun (k : Nat) => show Rfs (fun x v _ => v = .string x ∧ x.size ≤ L.length) W w S L T (.returned (.string ⟨#[]⟩)) ((w1.drewN k).setCell ⟨S, 2, none⟩ (.bool true)) by
      rw [HT.out.1 rfl]
      exact ⟨(HE.out.1.drewN k).setCell (fun _ => rfl) _, hR.step (((Chg.refl (fun i => i = S) w1).drewN k).setCell (fun _ => rfl) _) ((hb.drewN k).set 2 _) hv ⟨hn, rfl⟩, _, rfl, rfl, Nat.zero_le _⟩)
    clear hC hR HC hb hv hst h3
    go_wp2_with fail
    go_quiet (fail)
    go_wp2_with fail
    go_ret
    exact HF.out _
  | some r =>
    obtain ⟨hn, rfl, rfl⟩ := stands_some hst
    obtain ⟨m, hm⟩ : ∃ m, L.length = m := ⟨_, rfl⟩
    have hrl : (L.drop n).length = m - n := by rw [List.length_drop, hm]
    have HM := Lib.hid hm
    rw [hm] at hSc h1 hn hs
    obtain ⟨hT1, hT2⟩ := HT.out.2 _ rfl
    rw [hrl] at hT1 hT2
    by_cases hx : 0 ≤ x ∧ x ≤ ((m - n : Nat) : Int)
    · obtain ⟨q, rfl⟩ := Int.eq_ofNat_of_zero_le hx.1
      have hqn : q ≤ m - n := by omega
      have HTT := Lib.hid (hT1 hx)
      have hdr := h3.drop n
      have hcl : ((L.drop n).take q).length = q := by rw [List.length_take, hrl]; omega
      have hsl : ∀ b : Bool, (b = true → c = n) → BytesAt W ((L.drop n).take q) (.slice (if b = true then a else a.map (·.add n)) q (c - n)) := fun b hbc =>
        ⟨_, c - n, by rw [hcl], by rw [hcl]; omega, by unfold maxLen; omega, by have := (h3.drop n b (fun e => .inr (by have := hbc e; omega))).take q; rw [Nat.mul_one] at this; exact this⟩
      have HF := Lib.hid (fun (j k : Nat) => show Rfs (fun x v _ => v = .string x ∧ x.size ≤ L.length) W w S L T (.returned (.string ⟨((L.drop n).take q).toArray⟩)) (((w1.drewN j).setCell ⟨S, 1, none⟩ (.int .i64 ((n : Int) + (q : Int)))).drewN k) by
        rw [HTT.out]
        rw [show (n : Int) + (q : Int) = ((n + q : Nat) : Int) by omega]
        refine ⟨((HE.out.1.drewN j).setCell (fun _ => rfl) _).drewN k, hR.step ((((Chg.refl (fun i => i = S) w1).drewN j).setCell (fun _ => rfl) _).drewN k) (((hb.drewN j).set 1 _).drewN k) hv ⟨by omega, rfl, ?_⟩, _, rfl, rfl, ?_⟩
        · rw [List.drop_drop]; rfl
        · show (List.toArray _).size ≤ _
          rw [List.size_toArray]
          exact (by rw [hcl]; omega : ((L.drop n).take q).length ≤ L.length))
      have HX := Lib.hid (fun (j k : Nat) => show Ext W (((w1.drewN j).setCell ⟨S, 1, none⟩ (.int .i64 ((n : Int) + (q : Int)))).drewN k) from ((hR.ext.drewN j).setNew hR.hS _).drewN k)
      have HS := Lib.hid hsl
      clear hC hR HC hb hv hst h3 HT hT1 hT2 hrl hm hdr hcl hsl hx
      have hq0 : (0 : Int) ≤ (q : Int) := by omega
      go_wp2_with fail
      have hw : IntKind.i64.wrap ((m : Int) - (n : Int)) = ((m - n : Nat) : Int) := by rw [IntWalk.i64_in _ (by omega)]; omega
      have hd0 : decide ((q : Int) < 0) = false := by simp
      have hd1 : decide (((m - n : Nat) : Int) < (q : Int)) = false := by simp; omega
      go_quiet (fail)
      clear hw hd0 hd1
      have hnq : (n : Int) + (q : Int) ≤ 9223372036854775807 := by omega
      have hcv : ∀ j k, (convert 33 9 (.slice (if c = n then a else a.map (·.add n)) (n + q - n) (c - n))).run Tryz.prog (((w1.drewN j).setCell ⟨S, 1, none⟩ (.int .i64 ((n : Int) + (q : Int)))).drewN k) = .ok (.string ⟨((L.drop n).take q).toArray⟩) (((w1.drewN j).setCell ⟨S, 1, none⟩ (.int .i64 ((n : Int) + (q : Int)))).drewN k) := fun j k => by
        have := getw.bytes_text (HS.out (decide (c = n)) (fun e => of_decide_eq_true e)) (HX.out j k)
        simp only [decide_eq_true_eq] at this
        rw [Nat.add_sub_cancel_left]
        exact this
      have hsr := fun w => slice_run a m c n (n + q) (by omega) (by omega) w
      obtain ⟨z, hz⟩ : ∃ z, Value.slice (if c = n then a else a.map (·.add n)) (n + q - n) (c - n) = z := ⟨_, rfl⟩
      simp only [hz] at hcv hsr
      obtain ⟨p, hp⟩ : ∃ p, n + q = p := ⟨_, rfl⟩
      rw [hp] at hsr
      have hnp : (n : Int) + (q : Int) = (p : Int) := by omega
      rw [hnp] at hcv HF
      have HP := Lib.hid hp
      clear hz hp HX HS
      go_upto_region 6 with (fail)
      have hw : IntKind.i64.wrap ((p : Int) - (q : Int)) = (n : Int) := by rw [IntWalk.i64_in _ (by omega)]; omega
      go_quiet (fail)
      clear hw
      go_wp2_with fail
      go_ret
      exact HF.out _ _
    · have HF := Lib.hid (fun (k : Nat) => show Rfs (fun x v _ => v = .string x ∧ x.size ≤ L.length) W w S L T (.returned (.string ⟨#[]⟩)) ((w1.drewN k).setCell ⟨S, 2, none⟩ (.bool true)) by
        rw [hT2 (by omega)]
        exact ⟨(HE.out.1.drewN k).setCell (fun _ => rfl) _, hR.step (((Chg.refl (fun i => i = S) w1).drewN k).setCell (fun _ => rfl) _) ((hb.drewN k).set 2 _) hv ⟨by omega, rfl⟩, _, rfl, rfl, Nat.zero_le _⟩)
      clear hC hR HC hb hv hst h3 HT hT1 hT2 hrl hm
      go_wp2_with fail
      have hw : IntKind.i64.wrap ((m : Int) - (n : Int)) = ((m - n : Nat) : Int) := by rw [IntWalk.i64_in _ (by omega)]; omega
      by_cases hx0 : x < 0
      · have hd0 : decide (x < 0) = true := by simpa using hx0
        go_quiet (fail)
        clear hw
        go_wp2_with fail
        go_ret
        exact HF.out _
      · have hd0 : decide (x < 0) = false := by simpa using hx0
        have hd1 : decide (((m - n : Nat) : Int) < x) = true := by simp; omega
        go_quiet (fail)
        clear hw
        go_wp2_with fail
        go_ret
        exact HF.out _
end getr
end Go.Proofs.YtpcihajmcejliaaGreatDoor
namespace Go.Proofs.YtpcihajmcejliaaGreatDoor
open Go.RowKit
theorem RowAt.chg {α : Type} {k : Nat} {In : World → Nat → Nat → α → Prop} {l : List α} {v : Value} {w w' : World} {B : Nat} (hi : ∀ {w w' : World}, Keeps w w' → ∀ b o x, In w b o x → In w' b o x) (h : RowAt k In l v (hide (below B) w)) {S : Nat → Prop} (hC : Chg S w w') (hS : ∀ i, i < w.heap.size → S i → i < B) : RowAt k In l v (hide (below B) w') :=
  h.keeps (hi (keeps_chg hC fun i hi hs => by simp [below, hS i hi hs])) (keeps_chg hC fun i hi hs => by simp [below, hS i hi hs])
/-- what a loop has read, ahead of what it reads on -/
def qPre {α : Type} (xs : List α) (o : List α × St) : List α × St := (xs ++ o.1, o.2)
namespace getr
theorem pre_nil {α : Type} (o : List α × St) : qPre [] o = o := rfl
theorem pre_some {α : Type} {q : Qrs α} {n : Nat} {r : List UInt8} {xs : List α} : qPre xs (qLoop q (n + 1) (some r)) = qPre (xs ++ [(q (some r)).1]) (qLoop q n (q (some r)).2) := by
  simp [qPre, qLoop]
theorem pre_end {α : Type} {q : Qrs α} {n : Nat} {s : St} {xs : List α} (h : n = 0 ∨ s = none) : qPre xs (qLoop q n s) = (xs, s) := by
  rcases h with rfl | rfl
  · simp [qPre, qLoop]
  · rw [loop_none]; simp [qPre]
theorem q_le {α : Type} {p : Prs α} {q : Qrs α} (h : Agree p q) (hp : ∀ l x r, p l = some (x, r) → r.length + 8 ≤ l.length) {l r : List UInt8} {x : α} (e : q (some l) = (x, some r)) : r.length + 8 ≤ l.length := by
  cases hy : p l with
  | none => have := h.no l hy; rw [e] at this; cases this
  | some o =>
    obtain ⟨y, r2⟩ := o
    have h2 := h.yes _ _ _ hy
    rw [e] at h2
    cases h2
    exact hp _ _ _ hy
/-- how much a loop has read at least -/
def Fits (L : List UInt8) (k : Nat) (s : St) : Prop := k * 8 ≤ L.length + 8 ∧ ∀ r, s = some r → r.length + k * 8 ≤ L.length
theorem Fits.next {α : Type} {L : List UInt8} {k : Nat} {r : List UInt8} {q : Qrs α} (h : Fits L k (some r)) (hq : ∀ l r x, q (some l) = (x, some r) → r.length + 8 ≤ l.length) : Fits L (k + 1) (q (some r)).2 := by
  have h2 := h.2 r rfl
  refine ⟨by omega, fun r2 e => ?_⟩
  have := hq r r2 (q (some r)).1 (by rw [← e])
  omega
theorem Fits.start {L : List UInt8} {s : St} (h : ∀ r, s = some r → r.length ≤ L.length) : Fits L 0 s := ⟨by omega, fun r e => by have := h r e; omega⟩
theorem rf_len {W w : World} {S : Nat} {L : List UInt8} {s : St} (h : RfAt W w S L s) : ∀ r, s = some r → r.length ≤ L.length := by
  obtain ⟨v, n, b, -, -, hst⟩ := h.ex
  intro r e
  subst e
  obtain ⟨-, -, e⟩ := stands_some hst
  rw [e, List.length_drop]; omega
/-- whether it has failed, as the reader's cell tells it -/
theorem rf_cell {W w : World} {S : Nat} {L : List UInt8} {s : St} (h : RfAt W w S L s) : w.cell? ⟨S, 2, none⟩ = some (.bool s.isNone) := by
  obtain ⟨v, n, b, hb, -, hst⟩ := h.ex
  rw [hb.cell]
  cases s with
  | none => obtain ⟨-, rfl⟩ := stands_none hst; rfl
  | some l => obtain ⟨-, rfl, -⟩ := stands_some hst; rfl
theorem grow_next {α : Type} {k m : Nat} {E : TypeId} {V : α → Value → World → Prop} {w u w3 : World} {B : Nat} {M : Nat → Prop} {v : Value} {xs : List α} {x : α} {z : Value} {us : List Value} {news : List Value} {g cap' : Nat} {o : Obj}
    (hC : Chg M w u)
    (h1 : us.length = xs.length) (h3 : ∀ j (h : j < xs.length) (h' : j < us.length), V xs[j] us[j] (hide (rowHid B v) u) ∧ us[j].cells.size = k) (hxs : xs.length = m)
    (hown : w3.ownsRow B E k (.slice (some ⟨g, 0, none⟩) (m + 1) cap') (m + 1) (us.flatMap (fun u => u.cells.toList) ++ news)) (hgrow : (u.alloc o).grownBy w3 v.ownBlock)
    (hat : v.ownBlock = some g ∨ g = u.heap.size + 1) (hz : V x z (hide (rowHid B v) u)) (hzk : z.cells.size = k) (hnews : news = z.cells.toList)
    (hV : ∀ x u w w', Keeps w w' → V x u w → V x u w') :
    Grow k E V B w3 (.slice (some ⟨g, 0, none⟩) (m + 1) cap') (xs ++ [x]) ∧ Chg (fun i => M i ∨ v.ownBlock = some i) w w3 ∧ Chg (fun i => v.ownBlock = some i) u w3 := by
  have hb : Chg (fun i => v.ownBlock = some i) u w3 := ((Chg.refl _ u).alloc o).then ⟨hgrow.os, hgrow.tape, hgrow.output, hgrow.size, fun i hi hn => hgrow.block i hi (by first | exact hn | exact fun e => hn e.symm)⟩
  refine ⟨?_, (hC.weak (fun _ _ h => .inl h)).then (hb.weak (fun _ _ h => .inr h)), hb⟩
  subst hxs hnews
  exact Grow.push hV h1 h3 hz hzk hown hb.size (fun i hi hn => hb.block i hi hn) (fun i hi => by
    have hgi : g = i := by simpa [Value.ownBlock] using hi
    subst hgi
    rcases hat with h1 | h1
    · exact .inl h1
    · exact .inr (by omega))
theorem le_of {α : Type} {p : Prs α} {q : Qrs α} (h : Agree p q) (hp : ∀ l x r, p l = some (x, r) → r.length + 8 ≤ l.length) : ∀ l r x, q (some l) = (x, some r) → r.length + 8 ≤ l.length := fun _ _ _ e => q_le h hp e
theorem num_is (s : St) (h : ∀ l x r, rdNum l = some (x, r) → inI x) : inI (qNum s).1 := by
  unfold qNum qOf
  cases s with
  | none => exact by unfold inI; decide
  | some l =>
    simp only
    cases hp : rdNum l with
    | none => exact by unfold inI; decide
    | some o => obtain ⟨n, r⟩ := o; exact h _ _ _ hp
theorem num_isI {s s' : St} {x : Int} (h : qNum s = (x, s')) : inI x := by have := num_is s (fun _ _ _ h => getw.num_in h); rw [h] at this; exact this
set_option maxRecDepth 100000 in
set_option maxHeartbeats 4000000 in
theorem places_any {W w : World} {S : Nat} {L : List UInt8} {s : St} (h : RfAt W w S L s) (hs : L.length ≤ 100000000) :
    Calls Tryz.prog 76 #[.pointer (some ⟨S, 0, none⟩)] w (Rfs (fun x v w' => RowAt 2 PlcIn x v (hide (below w.heap.size) w')) W w S L (qList qPlc (fun xs s => (xs, s)) s)) := by
  have hSl := h.lt
  have HWl := Lib.hid (show W.heap.size ≤ w.heap.size from h.ext.size)
  have HC := Lib.hid (number_any h)
  obtain ⟨N, s1, hN⟩ : ∃ N s1, qNum s = (N, s1) := ⟨_, _, rfl⟩
  have HQ := Lib.hid (show qList qPlc (fun xs s => (xs, s)) s = ((qLoop qPlc N.toNat s1).1, bad N (qLoop qPlc N.toNat s1).2) by unfold qList qMap; rw [hN])
  rw [hN] at HC
  obtain ⟨T, hT⟩ : ∃ T, qLoop qPlc N.toNat s1 = T := ⟨_, rfl⟩
  rw [hT] at HQ
  have HT := Lib.hid hT
  rw [HQ.out]
  clear h hT HQ hN
  go_enter Tryz.func76, Tryz.ntmps76
  go_wp2_with fail
  refine HC.out.mono ?_
  rintro e w1 ⟨hC, hR, v, rfl, rfl⟩
  clear HC
  go_upto_block 0 with (fail)
  go_cut [3] (fun s3 w' => ∃ (xs : List FPlc) (st : St), Grow 2 84 VPlc w1.heap.size w' s3 xs ∧ RfAt W w' S L st ∧ Chg (fun i => i = S) w1 w' ∧ Hid (T = (xs, st)))
  case first =>
    go_wp2_with fail
    go_loopw [3, 5] (fun s3 s5 wr => ∃ (k : Nat) (xs : List FPlc) (st : St), s5 = .int .i64 k ∧ xs.length = k ∧ Grow 2 84 VPlc w1.heap.size wr s3 xs ∧ RfAt W wr S L st ∧ Fits L k st ∧ (k : Int) ≤ max N 0 ∧ Chg (fun i => i = S) w1 wr ∧ Hid (T = qPre xs (qLoop qPlc (N.toNat - k) st))) (fun _ s5 _ => N.toNat - (intOf s5).toNat)
    case atStart => exact ⟨0, [], s1, rfl, rfl, Grow.nil _ _ _ _ _, hR, Fits.start (rf_len hR), by omega, Chg.refl _ _, HT.out.symm⟩
    case round =>
      have hS1 := hR.lt
      have HCW := Lib.hid (hC.size)
      clear hR hC HT
      obtain ⟨k, xs, st, rfl, hxs, hG, hR, hF, hkN, hCr, hTr⟩ := hrel
      have hbad := rf_cell hR
      have hk8 := hF.1
      by_cases hlt : (k : Int) < N
      · cases st with
        | some r =>
          have hbad : wr.cell? ⟨S, 2, none⟩ = some (.bool false) := hbad
          obtain ⟨q, hq⟩ : ∃ q, N.toNat - k = q + 1 := ⟨N.toNat - k - 1, by omega⟩
          have HQQ := Lib.hid (show N.toNat - (k + 1) = q by omega)
          rw [hq] at hTr
          have HTN := Lib.hid (hTr.out.trans pre_some)
          have HXS := Lib.hid hxs
          have HFN := Lib.hid (hF.next (q := qPlc) (le_of plc getw.plc_le))
          have HGR := Lib.hid hG
          have HWR := Lib.hid hCr.size
          clear hq hTr hxs hF hG
          have hV0 := Blk.made wr #[.string ⟨#[]⟩, .int .i64 0] 84
          have hR0 := hR.alloc (.cells #[.string ⟨#[]⟩, .int .i64 0] 84)
          have hG0 : Chg (fun i => i = S) wr (wr.alloc (.cells #[.string ⟨#[]⟩, .int .i64 0] 84)) := (Chg.refl _ _).alloc _
          obtain ⟨Q, hQe⟩ : ∃ Q, wr.heap.size = Q := ⟨_, rfl⟩
          rw [hQe] at hV0
          have hSQ : S < Q := by have := hR.lt; omega
          obtain ⟨px0, pt0, hqp0⟩ : ∃ x s, qText (some r) = (x, s) := ⟨_, _, rfl⟩
          have HCp0 := Lib.hid (text_any hR0 hs)
          rw [hqp0] at HCp0
          have HQp0 := Lib.hid hqp0
          clear hqp0
          go_wp2_with fail
          refine HCp0.out.mono ?_
          rintro e pw0 ⟨hCp0, hRp0, v, rfl, ⟨rfl, hx⟩⟩
          have hRp0 : RfAt W pw0 S L pt0 := hRp0
          clear HCp0
          have hVp0 := hV0.chg hCp0 (by omega)
          have hGp0 := hG0.then hCp0
          have hVc := hVp0.cell
          have hVf := hVp0.frozen
          have hVl := hVp0.lt
          clear hV0 hG0 hR0 hCp0
          have HXp0 := Lib.hid hx
          clear hx
          have hVp0s : Blk (pw0.setCell ⟨Q, 0, none⟩ (.string px0)) Q #[.string px0, .int .i64 0] 84 := hVp0.set 0 _
          have hGp0s : Chg (fun i => i = S) wr (pw0.setCell ⟨Q, 0, none⟩ (.string px0)) := hGp0.setNew (p := ⟨Q, 0, none⟩) (by show _ ≤ Q; omega) _
          have hRp0s : RfAt W (pw0.setCell ⟨Q, 0, none⟩ (.string px0)) S L pt0 := hRp0.setFar (p := ⟨Q, 0, none⟩) (by show Q ≠ S; omega) (by have := HWl.out; have := HWR.out; have := HCW.out; show _ ≤ Q; omega) _
          obtain ⟨px1, pt1, hqp1⟩ : ∃ x s, qNum pt0 = (x, s) := ⟨_, _, rfl⟩
          have HCp1 := Lib.hid (number_any hRp0s)
          rw [hqp1] at HCp1
          have HQp1 := Lib.hid hqp1
          clear hqp1
          go_wp2_with fail
          refine HCp1.out.mono ?_
          rintro e pw1 ⟨hCp1, hRp1, v, rfl, rfl⟩
          have hRp1 : RfAt W pw1 S L pt1 := hRp1
          clear HCp1
          have hVp1 := hVp0s.chg hCp1 (by omega)
          have hGp1 := hGp0s.then hCp1
          have hVc := hVp1.cell
          have hVf := hVp1.frozen
          have hVl := hVp1.lt
          clear hVp0s hGp0s hRp0s hCp1
          have hVp1s : Blk (pw1.setCell ⟨Q, 1, none⟩ (.int .i64 px1)) Q #[.string px0, .int .i64 px1] 84 := hVp1.set 1 _
          have hGp1s : Chg (fun i => i = S) wr (pw1.setCell ⟨Q, 1, none⟩ (.int .i64 px1)) := hGp1.setNew (p := ⟨Q, 1, none⟩) (by show _ ≤ Q; omega) _
          have hRp1s : RfAt W (pw1.setCell ⟨Q, 1, none⟩ (.int .i64 px1)) S L pt1 := hRp1.setFar (p := ⟨Q, 1, none⟩) (by show Q ≠ S; omega) (by have := HWl.out; have := HWR.out; have := HCW.out; show _ ≤ Q; omega) _
          go_upto_region 9 with (fail)
          generalize pw1.setCell ⟨Q, 1, none⟩ (.int .i64 px1) = u9 at *
          have hG9 := HGR.out.chg getv.plc_keeps hGp1s (fun i hi => by omega)
          obtain ⟨us, hu1, hu2, hu3⟩ := hG9.ex
          rw [HXS.out] at hu2
          have HU := Lib.hid (And.intro hu1 hu3)
          have HGB := Lib.hid (getw.grow_base HGR.out)
          have HV2 := Lib.hid (getv.plc_keeps _ _ _ _ (getw.new_apart (w := u9) (getw.grow_base HGR.out) HWR.out) (show VPlc ⟨px0, px1⟩ (.agg #[.string px0, .int .i64 px1]) _ from ⟨rfl, Nat.le_trans HXp0.out (by unfold maxLen; omega), num_isI HQp1.out⟩))
          have hs9 : w1.heap.size ≤ u9.heap.size := Nat.le_trans HWR.out hGp1s.size
          obtain ⟨i0_, hi, hz0, hz1, hz2⟩ := info_parts getw.info_plc
          clear hG9 hu1 hu3
          have hQc := hVp1s.cell
          have hQl := hVp1s.lt
          go_wp2_with (at_builtin; refine wpList_append_lies _ rfl _ _ 29 rfl w1.heap.size 84 i0_ (.agg #[.string ⟨#[]⟩, .int .i64 0]) 2 24 Tryz.underlying29 hi hz0 hz1 hz2 rfl (by decide) _ _ _ rfl (hu2.alloc _) ⟨u9.heap.size, 0, none⟩ 1 1 [.string px0, .int .i64 px1] rfl rfl (getw.news_at rfl rfl) (by intro u hu; simp at hu; rcases hu with rfl | rfl <;> rfl) (by decide) (by unfold maxLen; omega) (by omega) (by simp; omega) (u9.heap.size + 1) (by simp) ?_; intro g cap' w9 hown hgrow hat hlt1)
          obtain ⟨hN1, hN2, hN3⟩ := grow_next hGp1s HU.out.1 HU.out.2 HXS.out hown hgrow hat HV2.out rfl rfl getv.plc_keeps
          have HIT := Lib.hid (show qPlc (some r) = (⟨px0, px1⟩, pt1) by simp only [qPlc, qMap, HQp0.out, HQp1.out])
          have HTN2 := Lib.hid (show T = qPre (xs ++ [⟨px0, px1⟩]) (qLoop qPlc q pt1) by rw [HTN.out, HIT.out])
          have HFN2 := Lib.hid (show Fits L (k + 1) pt1 by have := HFN.out; rw [HIT.out] at this; exact this)
          have hRn := hRp1s.chg hN3 (fun e => by have := (HGB.out S e).1; omega) (fun i e => by have := (HGB.out i e).1; have := HWl.out; have := HCW.out; omega)
          have hCn : Chg (fun i => i = S) w1 w9 := hCr.trans hN2 (fun i hi e => e.elim id (fun e => by have := (HGB.out i e).1; omega))
          go_roundw
          case rel => exact ⟨k + 1, xs ++ [⟨px0, px1⟩], pt1, by go_num, by simp [HXS.out], hN1, hRn, HFN2.out, by omega, hCn, by rw [HQQ.out]; exact HTN2.out⟩
          case measure => simp [intOf]; omega
        | none =>
          have hbad : wr.cell? ⟨S, 2, none⟩ = some (.bool true) := hbad
          have hend := Lib.hid (hTr.out.trans (pre_end (.inr rfl)))
          clear hTr
          go_wp2_with fail
          go_meet
          exact ⟨xs, none, hG, hR, hCr, hend⟩
      · have hend := Lib.hid (hTr.out.trans (pre_end (.inl (by omega))))
        clear hTr
        go_wp2_with fail
        go_meet
        exact ⟨xs, st, hG, hR, hCr, hend⟩
  case rest =>
    obtain ⟨xs, st, hG, hR, hCc, hTe⟩ := hcut
    obtain ⟨v, n, b, hb, hv, hst⟩ := hR.ex
    have hSc := hb.cell
    have hSf := hb.frozen
    have hSl := hb.lt
    have HCW := Lib.hid hC.size
    have hrow := hG.row getv.plc_keeps getv.plc_lies
    by_cases hN0 : N < 0
    · have hd0 : decide (N < 0) = true := by simpa using hN0
      have HF := Lib.hid (show Rfs (fun x v w' => RowAt 2 PlcIn x v (hide (below w.heap.size) w')) W w S L (T.1, bad N T.2) (.returned u3) (wc.setCell ⟨S, 2, none⟩ (.bool true)) by
        rw [hTe.out]
        unfold bad
        rw [if_pos hN0]
        refine ⟨(hC.then hCc).setCell (fun _ => rfl) _, fail_step hR, _, rfl, ?_⟩
        exact RowAt.chg (fun hk _ _ _ => PlcIn.keeps hk) (hrow.keeps (fun _ _ _ => PlcIn.keeps (keeps_low HCW.out)) (keeps_low HCW.out)) ((Chg.refl (fun i => i = S) wc).setCell (p := ⟨S, 2, none⟩) (fun _ => rfl) _) (fun i _ e => by omega))
      clear hG hR hCc hC hb hv hst hrow
      cases b
      all_goals
        go_wp2_with fail
        go_ret
        exact HF.out
    · have hd0 : decide (N < 0) = false := by simpa using hN0
      have HF := Lib.hid (show Rfs (fun x v w' => RowAt 2 PlcIn x v (hide (below w.heap.size) w')) W w S L (T.1, bad N T.2) (.returned u3) (wc.setCell ⟨S, 2, none⟩ (.bool b)) by
        rw [hTe.out]
        unfold bad
        rw [if_neg hN0]
        refine ⟨(hC.then hCc).setCell (fun _ => rfl) _, hR.step ((Chg.refl (fun i => i = S) wc).setCell (p := ⟨S, 2, none⟩) (fun _ => rfl) _) (hb.set 2 _) hv hst, _, rfl, ?_⟩
        exact RowAt.chg (fun hk _ _ _ => PlcIn.keeps hk) (hrow.keeps (fun _ _ _ => PlcIn.keeps (keeps_low HCW.out)) (keeps_low HCW.out)) ((Chg.refl (fun i => i = S) wc).setCell (p := ⟨S, 2, none⟩) (fun _ => rfl) _) (fun i _ e => by omega))
      clear hG hR hCc hC hb hv hst hrow
      cases b
      all_goals
        go_wp2_with fail
        go_ret
        exact HF.out
end getr
end Go.Proofs.YtpcihajmcejliaaGreatDoor
