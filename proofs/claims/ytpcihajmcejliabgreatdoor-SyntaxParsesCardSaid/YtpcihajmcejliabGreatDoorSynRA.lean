/- The reference's reader of modules: how it lies, and what its calls come to. The reference's reader: eat, must, name, label, whole. -/
import Derived.Test.YtpcihajmcejliabGreatDoorSynMC
namespace Go.Proofs.YtpcihajmcejliabGreatDoor
open Go.RowKit
/-- in the bad state nothing is read -/
def stO {α : Type} (b : Bool) (l : List Tk) (o : Out α) : Out α := if b = true then .bad l else o
/-- how what is returned and what is left stand to what is meant -/
def Rel {α : Type} (T : Out α) (y : α) (l2 : List Tk) (b2 : Bool) : Prop := match T with
  | .out => True
  | .bad l => l2 = l ∧ b2 = true
  | .got x l => y = x ∧ l2 = l ∧ b2 = false
/-- which row the tokens are, and how many: kept where no walk looks -/
def Tag (W : World) (a : Option Addr) (n : Nat) : Prop := ∃ p, W.drawn = 20000 * p + n ∧ ∀ b o, a = some ⟨b, o, none⟩ → b = p ∧ o = 0
/-- the reader: its tokens, which lie in an earlier world; where it is; whether it has failed -/
structure RdrAt (W w : World) (S : Nat) (l : List Tk) (b : Bool) : Prop where
  ex : ∃ a n c k, Blk w S #[.slice a n c, .int .i64 (k : Nat), .bool b] 160 ∧ k + l.length = n ∧ (n ≤ 10000 ∧ Tag W a n) ∧ TksIn W a k l
  ext : Ext W w
  hS : W.heap.size ≤ S
theorem RdrAt.chg {W w w' : World} {S : Nat} {l : List Tk} {b : Bool} (h : RdrAt W w S l b) {M : Nat → Prop} (hE : Chg M w w') (hn : ¬ M S) (hM : ∀ i, M i → W.heap.size ≤ i) : RdrAt W w' S l b := by
  obtain ⟨a, n, c, k, hb, h1, h2, h3⟩ := h.ex
  exact ⟨⟨a, n, c, k, hb.chg hE hn, h1, h2, h3⟩, h.ext.trans hE (fun i hi hm => by have := hM i hm; omega), h.hS⟩
theorem RdrAt.extend {W w w' : World} {S : Nat} {l : List Tk} {b : Bool} (h : RdrAt W w S l b) (hE : Ext w w') : RdrAt W w' S l b := h.chg hE id fun _ h => h.elim
theorem RdrAt.lt {W w : World} {S : Nat} {l : List Tk} {b : Bool} (h : RdrAt W w S l b) : S < w.heap.size := by obtain ⟨a, n, c, k, hb, -⟩ := h.ex; exact hb.lt
theorem RdrAt.len {W w : World} {S : Nat} {l : List Tk} {b : Bool} (h : RdrAt W w S l b) : l.length ≤ 10000 := by obtain ⟨a, n, c, k, hb, h1, h2, -⟩ := h.ex; omega
namespace synr
open synw
theorem now_bind {α β : Type} {b b2 : Bool} {l l2 : List Tk} {p : Out α} {f : α → List Tk → Out β} {T : Out β} {y : α} (h : stO b l (p.bind f) = T) (hT : T ≠ .out) (hr : Rel (stO b l p) y l2 b2) : stO b2 l2 (f y l2) = T := by
  cases b with
  | true =>
    obtain ⟨rfl, rfl⟩ := hr
    exact h
  | false =>
    cases p with
    | out => exact absurd h.symm hT
    | bad q => obtain ⟨rfl, rfl⟩ := hr; exact h
    | got x q => obtain ⟨rfl, rfl, rfl⟩ := hr; exact h
theorem now_ne {α β : Type} {b : Bool} {l : List Tk} {p : Out α} {f : α → List Tk → Out β} {T : Out β} (h : stO b l (p.bind f) = T) (hT : T ≠ .out) : stO b l p ≠ .out := by
  cases b with
  | true => intro e; cases e
  | false =>
    intro e
    have e2 : p = .out := e
    subst e2
    exact hT h.symm
theorem st_ne {α : Type} {b : Bool} {l : List Tk} {p : Out α} (h : p ≠ .out) : stO b l p ≠ .out := by
  cases b with
  | true => intro e; cases e
  | false => exact h
theorem now_eat {α : Type} {b : Bool} {l : List Tk} {s : ByteArray} {p q : Out α} {T : Out α} (h : stO b l (if isB l [s] = true then p else q) = T) (he : (!b && isB l [s]) = true) : b = false ∧ isB l [s] = true ∧ p = T := by
  simp only [Bool.and_eq_true, Bool.not_eq_true'] at he
  obtain ⟨rfl, h2⟩ := he
  refine ⟨rfl, h2, ?_⟩
  have h3 : (if isB l [s] = true then p else q) = T := h
  rw [if_pos h2] at h3; exact h3
theorem now_not {α : Type} {b : Bool} {l : List Tk} {s : ByteArray} {p q : Out α} {T : Out α} (h : stO b l (if isB l [s] = true then p else q) = T) (he : (!b && isB l [s]) = false) : stO b l q = T := by
  cases b with
  | true => exact h
  | false =>
    have h2 : isB l [s] = false := by simpa using he
    have h3 : (if isB l [s] = true then p else q) = T := h
    rw [h2] at h3
    exact h3
/-- what a call of the reader comes to -/
def Rst {α : Type} (V : α → Value → World → Prop) (W w : World) (S : Nat) (T : Out α) (e : Ending) (w' : World) : Prop :=
  Chg (fun i => i = S) w w' ∧ ∃ y v l2 b2, e = .returned v ∧ V y v w' ∧ RdrAt W w' S l2 b2 ∧ Rel T y l2 b2
theorem Rst.mk {α : Type} {V : α → Value → World → Prop} {W w : World} {S : Nat} {T : Out α} {w' : World} {y : α} {v : Value} {l2 : List Tk} {b2 : Bool} (hC : Chg (fun i => i = S) w w') (hV : V y v w') (hR : RdrAt W w' S l2 b2) (h : stO b2 l2 (.got y l2) = T) : Rst V W w S T (.returned v) w' := by
  refine ⟨hC, y, v, l2, b2, rfl, hV, hR, ?_⟩
  subst h
  cases b2 with
  | true => exact ⟨rfl, rfl⟩
  | false => exact ⟨rfl, rfl, rfl⟩
def textN : List Tk → ByteArray
  | [] => ⟨#[]⟩
  | t :: _ => if t.kind = 2 then ⟨#[]⟩ else t.text
theorem rdr_ok {W w : World} {S : Nat} {t : Tk} {r : List Tk} {b : Bool} (h : RdrAt W w S (t :: r) b) : TkOk t := by
  obtain ⟨a, n, c, k, hb, h1, h2, h3⟩ := h.ex
  obtain ⟨q, o, -, -, ht⟩ := h3 0 (by simp)
  exact ht.ok
theorem rdr_step {W w : World} {S : Nat} {t : Tk} {r : List Tk} {b : Bool} (h : RdrAt W w S (t :: r) b) : ∃ k : Nat, w.cell? ⟨S, 1, none⟩ = some (.int .i64 k) ∧ k < 10000 ∧ RdrAt W (w.setCell ⟨S, 1, none⟩ (.int .i64 ((k : Int) + 1))) S r b := by
  obtain ⟨a, n, c, k, hb, h1, h2, h3⟩ := h.ex
  refine ⟨k, hb.cell 1, by simp at h1; omega, ⟨a, n, c, k + 1, ?_, by simp at h1; omega, h2, h3.tail⟩, h.ext.setNew h.hS _, h.hS⟩
  have := hb.set 1 (.int .i64 ((k : Int) + 1))
  exact this
theorem rdr_fail {W w : World} {S : Nat} {l : List Tk} {b : Bool} (h : RdrAt W w S l b) : RdrAt W (w.setCell ⟨S, 2, none⟩ (.bool true)) S l true := by
  obtain ⟨a, n, c, k, hb, h1, h2, h3⟩ := h.ex
  refine ⟨⟨a, n, c, k, ?_, h1, h2, h3⟩, h.ext.setNew h.hS _, h.hS⟩
  have := hb.set 2 (.bool true)
  exact this
theorem rdr_blk {W w : World} {S : Nat} {l : List Tk} {b : Bool} (h : RdrAt W w S l b) : ∃ a n c k, Blk w S #[.slice a n c, .int .i64 (k : Nat), .bool b] 160 ∧ k + l.length = n ∧ n ≤ 10000 := by
  obtain ⟨a, n, c, k, hb, h1, h2, h3⟩ := h.ex
  exact ⟨a, n, c, k, hb, h1, h2.1⟩
set_option maxRecDepth 100000 in
set_option maxHeartbeats 4000000 in
theorem text_any {W w : World} {S : Nat} {l : List Tk} {b : Bool} (h : RdrAt W w S l b) :
    Calls Tryz.prog 158 #[.pointer (some ⟨S, 0, none⟩)] w fun e w' => e = .returned (.string (if b = true then ⟨#[]⟩ else textN l)) ∧ Ext w w' := by
  obtain ⟨a, n, c, k, hb, h1, h2, h3⟩ := h.ex
  have hc0 := hb.cell 0
  have hc1 := hb.cell 1
  have hc2 := hb.cell 2
  simp at hc0 hc1 hc2
  cases b with
  | true =>
    clear h3 h hb
    simp only [↓reduceIte]
    go_enter Tryz.func158, Tryz.ntmps158
    go_wp2_with fail
    go_quiet (fail)
    go_wp2_with fail
    go_ret
    exact ⟨rfl, (Chg.refl _ _).drewN _⟩
  | false =>
    simp only [Bool.false_eq_true, ↓reduceIte]
    cases l with
    | nil =>
      simp only [List.length_nil, Nat.add_zero] at h1
      subst h1
      clear h3 h hb
      have hge : ((k : Int) ≥ (k : Int)) := Int.le_refl _
      go_enter Tryz.func158, Tryz.ntmps158
      go_wp2_with fail
      go_quiet (fail)
      go_wp2_with fail
      go_ret
      exact ⟨rfl, (Chg.refl _ _).drewN _⟩
    | cons t r =>
      obtain ⟨q, o, rfl, hbb, ht⟩ := h3 0 (by simp)
      obtain ⟨t0, t1, t2, -⟩ := ht
      have e : ∀ i, w.cell? ⟨q, i, none⟩ = W.cell? ⟨q, i, none⟩ := fun i => h.ext.cell (by exact hbb) id
      have hbW := Nat.lt_of_lt_of_le hbb h.ext.size
      rw [← e] at t0 t1 t2
      simp only [Nat.add_zero, List.getElem_cons_zero] at t0 t1 t2
      have hkn : (k : Int) < (n : Int) := by simp at h1; omega
      have hkn2 : ¬ ((n : Int) ≤ (k : Int)) := by omega
      have hkn3 : decide (n ≤ k) = false := by simp; omega
      clear h3 h hb e h1 hbb
      obtain ⟨tk, tt, ta⟩ := t
      simp only at t0 t1 t2
      by_cases hk : tk = 2
      · subst hk
        simp only [textN, ↓reduceIte]
        clear t1 t2
        go_enter Tryz.func158, Tryz.ntmps158
        go_wp2_with fail
        go_quiet (fail)
        go_wp2_with fail
        go_ret
        exact ⟨rfl, (Chg.refl _ _).drewN _⟩
      · have hk2 : (tk == 2) = false := by simpa using hk
        simp only [textN, if_neg hk]
        go_enter Tryz.func158, Tryz.ntmps158
        go_wp2_with fail
        go_quiet (fail)
        have t1' : (w.drewN nq).cell? ⟨q, o + k * 3 + 1, none⟩ = _ := t1
        have hc0' : (w.drewN nq).cell? ⟨S, 0, none⟩ = _ := hc0
        have hc1' : (w.drewN nq).cell? ⟨S, 1, none⟩ = _ := hc1
        have HX := Lib.hid ((Chg.refl (fun _ => False) w).drewN nq)
        have hbq : q < (w.drewN nq).heap.size := hbW
        generalize w.drewN nq = w2 at *
        go_wp2_with fail
        go_quiet (fail)
        go_wp2_with fail
        go_ret
        exact ⟨rfl, HX.out.drewN _⟩
end synr
end Go.Proofs.YtpcihajmcejliabGreatDoor
namespace Go.Proofs.YtpcihajmcejliabGreatDoor
open Go.RowKit
namespace synr
open synw
theorem eat_iff {l : List Tk} {b : Bool} {s : ByteArray} (hs : s ≠ ⟨#[]⟩) : decide ((if b = true then (⟨#[]⟩ : ByteArray) else textN l) = s) = (!b && isB l [s]) := by
  cases b with
  | true => simp; exact fun h => hs h.symm
  | false =>
    cases l with
    | nil => simp [textN, isB]; exact fun h => hs h.symm
    | cons t r =>
      by_cases hk : t.kind = 2
      · simp [textN, isB, hk]; exact fun h => hs h.symm
      · simp [textN, isB, hk]
set_option maxRecDepth 100000 in
set_option maxHeartbeats 4000000 in
theorem eat_any {W w : World} {S : Nat} {l : List Tk} {b : Bool} (h : RdrAt W w S l b) (s : ByteArray) (hs : s ≠ ⟨#[]⟩) :
    Calls Tryz.prog 90 #[.pointer (some ⟨S, 0, none⟩), .string s] w
      fun e w' => e = .returned (.bool (!b && isB l [s])) ∧ Chg (fun i => i = S) w w' ∧ RdrAt W w' S (if (!b && isB l [s]) = true then l.tail else l) b := by
  have HC := Lib.hid (text_any h)
  have hl : (!b && isB l [s]) = true → ∃ t r, l = t :: r := fun h => by
    simp only [Bool.and_eq_true] at h
    exact isB_some h.2
  have he := eat_iff (l := l) (b := b) hs
  have HP := Lib.hid (fun u (hE : Ext w u) => h.extend hE)
  generalize (if b = true then (⟨#[]⟩ : ByteArray) else textN l) = x at *
  generalize (!b && isB l [s]) = R at *
  have hst := str_eq (a := x) (b := s)
  rw [he] at hst
  clear h he
  cases R with
  | false =>
    clear hl
    go_enter Tryz.func90, Tryz.ntmps90
    go_wp2_with fail
    refine HC.out.mono ?_
    rintro e w1 ⟨rfl, hE⟩
    go_wp2_with fail
    go_ret
    exact ⟨rfl, ext_at hE S, by simpa using HP.out _ hE⟩
  | true =>
    obtain ⟨t, r, rfl⟩ := hl rfl
    go_enter Tryz.func90, Tryz.ntmps90
    go_wp2_with fail
    refine HC.out.mono ?_
    rintro e w1 ⟨rfl, hE⟩
    have hP := HP.out _ hE
    obtain ⟨k, hk, hk2, hP2⟩ := rdr_step hP
    obtain ⟨a', n', c', k', hB, -, -⟩ := rdr_blk hP
    have hf := hB.frozen 1
    have hSl := hB.lt
    have hkw : IntKind.i64.wrap ((k : Int) + 1) = (k : Int) + 1 := wrap_small _ (by omega) (by omega)
    have HP2 := Lib.hid hP2
    have HE := Lib.hid hE
    clear hP2 hP hB hE
    go_wp2_with fail
    go_ret
    exact ⟨rfl, chg_set (ext_at HE.out S) 1 _, by simpa using HP2.out⟩
set_option maxRecDepth 100000 in
set_option maxHeartbeats 4000000 in
theorem must_any {W w : World} {S : Nat} {l : List Tk} {b : Bool} (h : RdrAt W w S l b) (s : ByteArray) (hs : s ≠ ⟨#[]⟩) :
    Calls Tryz.prog 88 #[.pointer (some ⟨S, 0, none⟩), .string s] w (Rst VUnit W w S (stO b l (pNeed s l))) := by
  have HC := Lib.hid (eat_any h s hs)
  obtain ⟨T, hT⟩ : ∃ T, stO b l (pNeed s l) = T := ⟨_, rfl⟩
  rw [hT]
  unfold pNeed at hT
  have H1 := Lib.hid (fun he => now_eat hT he)
  have H2 := Lib.hid (fun he => now_not hT he)
  clear h hT
  generalize (!b && isB l [s]) = R at *
  go_enter Tryz.func88, Tryz.ntmps88
  go_wp2_with fail
  refine HC.out.mono ?_
  rintro e w1 ⟨rfl, hC, hP⟩
  cases R with
  | true =>
    have hP2 : RdrAt W w1 S l.tail b := by simpa using hP
    have HR := Lib.hid hP2
    have HCC := Lib.hid hC
    clear hP hP2 hC
    go_wp2_with fail
    go_end0
    obtain ⟨rfl, h3, h4⟩ := H1.out (by trivial)
    exact Rst.mk HCC.out rfl HR.out h4
  | false =>
    have hP2 : RdrAt W w1 S l b := by simpa using hP
    obtain ⟨a', n', c', k', hB, -, -⟩ := rdr_blk hP2
    have hc := hB.cell 2
    have hf := hB.frozen 2
    have hSl := hB.lt
    simp at hc
    have HR := Lib.hid (rdr_fail hP2)
    have HCC := Lib.hid hC
    clear hP hP2 hC hB
    go_wp2_with fail
    go_end0
    refine Rst.mk (y := ()) (chg_set HCC.out 2 _) rfl HR.out ?_
    have := H2.out (by trivial)
    cases b with
    | true => exact this
    | false => exact this
theorem name_iff {l : List Tk} (h : ∀ t ∈ l.head?, TkOk t) : pName l = if nameB (textN l).data.toList = true then .got (textN l) l.tail else .bad l := by
  cases l with
  | nil => rfl
  | cons t r =>
    have ho := h t rfl
    have hk := ho.kinds
    simp only [pName, List.tail_cons]
    by_cases h1 : t.kind = 1
    · have hw := ho.word h1
      have e : textN (t :: r) = t.text := if_neg (by omega : ¬ t.kind = 2)
      rw [e]
      simp only [nameB, hw, Bool.true_and, h1, true_and]
      cases reservedL.contains t.text.data.toList <;> simp
    · rw [if_neg (fun h => h1 h.1)]
      by_cases h2 : t.kind = 2
      · have e : textN (t :: r) = ⟨#[]⟩ := if_pos h2
        rw [e, if_neg (by decide)]
      · have hw := ho.sign (by omega)
        have e : textN (t :: r) = t.text := if_neg h2
        rw [e, if_neg (by simp [nameB, hw])]
set_option maxRecDepth 100000 in
set_option maxHeartbeats 4000000 in
theorem name_any {W w : World} {S : Nat} {l : List Tk} {b : Bool} (h : RdrAt W w S l b) :
    Calls Tryz.prog 89 #[.pointer (some ⟨S, 0, none⟩)] w (Rst (fun s v _ => v = .string s ∧ s.size ≤ 3000) W w S (stO b l (pName l))) := by
  have HC := Lib.hid (text_any h)
  have hh : ∀ t ∈ l.head?, TkOk t := by
    cases l with
    | nil => intro t ht; cases ht
    | cons t r => intro t' ht; obtain rfl : t = t' := by simpa using ht
                  exact rdr_ok h
  have hsz : (if b = true then (⟨#[]⟩ : ByteArray) else textN l).size ≤ 3000 := by
    cases b with
    | true => exact (by decide : (0 : Nat) ≤ 3000)
    | false =>
      cases l with
      | nil => exact (by decide : (0 : Nat) ≤ 3000)
      | cons t r =>
        simp only [textN, Bool.false_eq_true, ↓reduceIte]
        split
        · exact (by decide : (0 : Nat) ≤ 3000)
        · exact (hh t rfl).size
  have hni := name_iff hh
  obtain ⟨T, hT⟩ : ∃ T, stO b l (pName l) = T := ⟨_, rfl⟩
  rw [hT]
  rw [hni] at hT
  obtain ⟨x, hx⟩ : ∃ x, (if b = true then (⟨#[]⟩ : ByteArray) else textN l) = x := ⟨_, rfl⟩
  rw [hx] at HC hsz
  obtain ⟨R, hR⟩ : ∃ R, nameB x.data.toList = R := ⟨_, rfl⟩
  have hyes : R = true → b = false ∧ l ≠ [] ∧ T = .got x l.tail := fun e => by
    subst e
    cases b with
    | true => subst hx; cases hR
    | false =>
      have hx2 : textN l = x := hx
      rw [hx2] at hT
      refine ⟨rfl, fun e => ?_, ?_⟩
      · subst e; subst hx2; cases hR
      · rw [hR] at hT; exact hT.symm
  have hno : R = false → stO b l (.bad l) = T := fun e => by
    subst e
    cases b with
    | true => exact hT
    | false =>
      have hx2 : textN l = x := hx
      rw [hx2, hR] at hT
      exact hT
  have HY := Lib.hid hyes
  have HNO := Lib.hid hno
  have HP := Lib.hid (fun u (hE : Ext w u) => h.extend hE)
  have HNM := Lib.hid (fun u => rname.name_any x u (by omega))
  rw [hR] at HNM
  clear hh hni hT hyes hno hx hR h
  go_enter Tryz.func89, Tryz.ntmps89
  go_wp2_with fail
  refine HC.out.mono ?_
  rintro e w1 ⟨rfl, hE⟩
  go_wp2_with fail
  refine (HNM.out _).mono ?_
  rintro e w2 ⟨rfl, hE2⟩
  have hE3 := hE.ext hE2
  have hP := HP.out _ hE3
  have HE := Lib.hid hE3
  clear hE hE2 hE3
  cases R with
  | false =>
    obtain ⟨a', n', c', k', hB, -, -⟩ := rdr_blk hP
    have hc := hB.cell 2
    have hf := hB.frozen 2
    have hSl := hB.lt
    simp at hc
    have HR := Lib.hid (rdr_fail hP)
    clear hP hB
    go_wp2_with fail
    go_ret
    refine Rst.mk (y := (⟨#[]⟩ : ByteArray)) (chg_set (ext_at HE.out S) 2 _) ⟨rfl, by decide⟩ HR.out ?_
    have := HNO.out (by trivial)
    cases b with
    | true => exact this
    | false => exact this
  | true =>
    obtain ⟨rfl, hl, hT⟩ := HY.out (by trivial)
    obtain ⟨t, r, rfl⟩ : ∃ t r, l = t :: r := by
      cases l with
      | nil => exact absurd rfl hl
      | cons t r => exact ⟨t, r, rfl⟩
    have HT := Lib.hid hT
    obtain ⟨k, hk, hk2, hP2⟩ := rdr_step hP
    obtain ⟨a', n', c', k', hB, -, -⟩ := rdr_blk hP
    have hf := hB.frozen 1
    have hSl := hB.lt
    have hkw : IntKind.i64.wrap ((k : Int) + 1) = (k : Int) + 1 := wrap_small _ (by omega) (by omega)
    have HP2 := Lib.hid hP2
    clear hP2 hP hB hT hl
    go_wp2_with fail
    go_ret
    exact Rst.mk (chg_set (ext_at HE.out S) 1 _) ⟨rfl, by omega⟩ HP2.out HT.out.symm
def VStr3 (s : ByteArray) (v : Value) (_ : World) : Prop := v = .string s ∧ s.size ≤ 3000
theorem name_any3 {W w : World} {S : Nat} {l : List Tk} {b : Bool} (h : RdrAt W w S l b) :
    Calls Tryz.prog 89 #[.pointer (some ⟨S, 0, none⟩)] w (Rst VStr3 W w S (stO b l (pName l))) := name_any h
set_option maxRecDepth 100000 in
set_option maxHeartbeats 4000000 in
theorem label_any {W w : World} {S : Nat} {l : List Tk} {b : Bool} (h : RdrAt W w S l b) :
    Calls Tryz.prog 160 #[.pointer (some ⟨S, 0, none⟩)] w (Rst VLab W w S (stO b l (pLabel l))) := by
  have HC := Lib.hid (eat_any h sHigh (by decide))
  obtain ⟨T, hT⟩ : ∃ T, stO b l (pLabel l) = T := ⟨_, rfl⟩
  have hne : T ≠ .out := by rw [← hT]; exact st_ne (pLabel_ne l)
  rw [hT]
  unfold pLabel at hT
  have H1 := Lib.hid (fun he => now_eat hT he)
  have H2 := Lib.hid (fun he => now_not hT he)
  have HNE := Lib.hid hne
  clear h hT hne
  generalize (!b && isB l [sHigh]) = R at *
  go_enter Tryz.func160, Tryz.ntmps160
  go_wp2_with fail
  refine HC.out.mono ?_
  rintro e w1 ⟨rfl, hC, hP⟩
  cases R with
  | true =>
    have HR := Lib.hid (show RdrAt W w1 S l.tail b by simpa using hP)
    have HCC := Lib.hid hC
    clear hP hC
    go_wp2_with fail
    go_ret
    obtain ⟨rfl, h3, h4⟩ := H1.out (by trivial)
    exact Rst.mk HCC.out ⟨rfl, by decide, by decide⟩ HR.out h4
  | false =>
    have hP2 : RdrAt W w1 S l b := by simpa using hP
    have HT := Lib.hid (H2.out (by trivial))
    have HM := Lib.hid (must_any hP2 sLow (by decide))
    have HCC := Lib.hid hC
    clear hP hP2 hC H1 H2 HC
    go_wp2_with fail
    refine HM.out.mono ?_
    rintro e w2 ⟨hC2, y, v, l2, b2, rfl, rfl, hR2, hrel⟩
    have HT2 := Lib.hid (now_bind HT.out HNE.out hrel)
    have HR2 := Lib.hid hR2
    have HC2 := Lib.hid (HCC.out.then hC2)
    clear hC2 hR2 hrel
    go_wp2_with fail
    go_ret
    exact Rst.mk HC2.out ⟨rfl, by decide, by decide⟩ HR2.out HT2.out
set_option maxRecDepth 100000 in
set_option maxHeartbeats 4000000 in
theorem whole_any {W w : World} {S : Nat} {l : List Tk} {b : Bool} (h : RdrAt W w S l b) :
    Calls Tryz.prog 259 #[.pointer (some ⟨S, 0, none⟩)] w (Rst VStr W w S (stO b l (pWhole l))) := by
  have HC := Lib.hid (name_any3 h)
  obtain ⟨T, hT⟩ : ∃ T, stO b l (pWhole l) = T := ⟨_, rfl⟩
  have hne : T ≠ .out := by rw [← hT]; exact st_ne (pWhole_ne l)
  rw [hT]
  unfold pWhole at hT
  have HT := Lib.hid hT
  have HNE := Lib.hid hne
  clear h hT hne
  go_enter Tryz.func259, Tryz.ntmps259
  go_wp2_with fail
  refine HC.out.mono ?_
  rintro e w1 ⟨hC1, s1, v, l1, b1, rfl, ⟨rfl, hs1⟩, hR1, hrel⟩
  have HT1 := Lib.hid (now_bind HT.out HNE.out hrel)
  have HC1 := Lib.hid hC1
  have HE := Lib.hid (eat_any hR1 sDot (by decide))
  have H1 := Lib.hid (fun he => now_eat HT1.out he)
  have H2 := Lib.hid (fun he => now_not HT1.out he)
  clear hC1 hR1 hrel HT HC HT1
  generalize (!b1 && isB l1 [sDot]) = R at *
  go_wp2_with fail
  refine HE.out.mono ?_
  rintro e w2 ⟨rfl, hC2, hP⟩
  have HC2 := Lib.hid (HC1.out.then hC2)
  cases R with
  | false =>
    have HR := Lib.hid (show RdrAt W w2 S l1 b1 by simpa using hP)
    clear hP hC2
    go_wp2_with fail
    go_ret
    exact Rst.mk HC2.out ⟨rfl, by omega⟩ HR.out (H2.out (by trivial))
  | true =>
    obtain ⟨rfl, h3, h4⟩ := H1.out (by trivial)
    have hP2 : RdrAt W w2 S l1.tail false := by simpa using hP
    have HN := Lib.hid (name_any3 hP2)
    have HT4 := Lib.hid (show stO false l1.tail ((pName l1.tail).bind fun t l => .got (s1 ++ (sDot ++ t)) l) = T from h4)
    clear hP hP2 hC2 h3 h4 H1 H2 HE
    go_wp2_with fail
    refine HN.out.mono ?_
    rintro e w3 ⟨hC3, s3, v, l3, b3, rfl, ⟨rfl, hs3⟩, hR3, hrel⟩
    have HT5 := Lib.hid (now_bind HT4.out HNE.out hrel)
    have HC3 := Lib.hid (HC2.out.then hC3)
    have HR3 := Lib.hid hR3
    have hz1 : (s1 ++ (⟨#[46]⟩ : ByteArray)).size = s1.size + 1 := by rw [ByteArray.size_append]; rfl
    have hz2 : ((s1 ++ (⟨#[46]⟩ : ByteArray)) ++ s3).size = s1.size + 1 + s3.size := by rw [ByteArray.size_append, hz1]
    have HZ := Lib.hid hz2
    clear hC3 hR3 hrel hz2
    go_wp2_with fail
    go_ret
    have e : (s1 ++ (⟨#[46]⟩ : ByteArray)) ++ s3 = s1 ++ (sDot ++ s3) := ByteArray.append_assoc ..
    refine Rst.mk (y := s1 ++ (sDot ++ s3)) HC3.out ⟨by rw [← e]; rfl, by rw [← e, HZ.out]; omega⟩ HR3.out HT5.out
end synr
end Go.Proofs.YtpcihajmcejliabGreatDoor
