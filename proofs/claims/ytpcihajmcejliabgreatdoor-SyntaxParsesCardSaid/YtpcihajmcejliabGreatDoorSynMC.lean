/- The parser in plain Lean: what is read makes the rest shorter. The parser: what a function of it stands in, a node in a local variable, and how a node is told. -/
import Derived.Test.YtpcihajmcejliabGreatDoorSynA
import Derived.Test.YtpcihajmcejliabGreatDoorSynB
import Derived.Deep.LoopGhost
namespace Go.Proofs.YtpcihajmcejliabGreatDoor
open Go.RowKit
/-- what may read nothing -/
def NT.weak : NT → Nat
  | .loop _ _ => 0
  | .imports _ _ => 0
  | .decls _ _ => 0
  | .place _ => 0
  | _ => 1
namespace synm
theorem got_bind {α β : Type} {o : Out α} {f : α → List Tk → Out β} {x : β} {r : List Tk} (h : o.bind f = .got x r) : ∃ y l, o = .got y l ∧ f y l = .got x r := by
  cases o with
  | out => cases h
  | bad l => cases h
  | got y l => exact ⟨y, l, rfl, h⟩
theorem tail_lt {l : List Tk} {ws : List ByteArray} (h : isB l ws = true) : l.tail.length < l.length := by
  cases l with
  | nil => cases h
  | cons t r => simp
theorem need_lt {s : ByteArray} {l r : List Tk} {u : Unit} (h : pNeed s l = .got u r) : r.length < l.length := by
  unfold pNeed at h
  split at h
  · rename_i h1
    injection h with _ h2
    subst h2
    exact tail_lt h1
  · cases h
theorem name_lt {l r : List Tk} {s : ByteArray} (h : pName l = .got s r) : r.length < l.length := by
  cases l with
  | nil => cases h
  | cons t q =>
    simp only [pName] at h
    split at h
    · injection h with _ h2
      subst h2; simp
    · cases h
theorem number_lt {l r : List Tk} {x : Nd} (h : pNumber l = .got x r) : r.length < l.length := by
  cases l with
  | nil => cases h
  | cons t q =>
    simp only [pNumber] at h
    split at h
    · injection h with _ h2
      subst h2; simp
    · cases h
theorem whole_lt {l r : List Tk} {s : ByteArray} (h : pWhole l = .got s r) : r.length < l.length := by
  unfold pWhole at h
  obtain ⟨y, q, h1, h2⟩ := got_bind h
  have := name_lt h1
  split at h2
  · rename_i hb
    obtain ⟨z, q2, h3, h4⟩ := got_bind h2
    have := name_lt h3
    have := tail_lt hb
    injection h4 with _ h5
    subst h5; omega
  · injection h2 with _ h5
    subst h5; omega
theorem label_lt {l r : List Tk} {b : Int} (h : pLabel l = .got b r) : r.length < l.length := by
  unfold pLabel at h
  split at h
  · rename_i hb
    injection h with _ h5
    subst h5; exact tail_lt hb
  · obtain ⟨z, q2, h3, h4⟩ := got_bind h
    have := need_lt h3
    injection h4 with _ h5
    subst h5; omega
theorem semi_lt {l r : List Tk} {x y : Nd} (h : semi x l = .got y r) : r.length < l.length := by
  unfold semi at h
  obtain ⟨z, q2, h3, h4⟩ := got_bind h
  have := need_lt h3
  injection h4 with _ h5
  subst h5; omega
theorem got_len {x y : Nd} {l r : List Tk} (h : Out.got x l = Out.got y r) : r.length = l.length := by injection h with _ h; rw [h]
theorem head_lt {l : List Tk} (h : kindOf l = 3) : l.tail.length < l.length := by
  cases l with
  | nil => simp [kindOf] at h
  | cons t r => simp
theorem prs_lt : ∀ (n : Nat) (X : NT) (l : List Tk) (x : Nd) (r : List Tk), prs n X l = .got x r → r.length + X.weak ≤ l.length := by
  intro n
  induction n with
  | zero => intro X l x r h; cases X <;> cases h
  | succ n ih =>
    intro X l x r h
    cases X with
    | expr =>
      simp only [prs] at h
      have := ih _ _ _ _ h
      exact this
    | bound k =>
      simp only [prs] at h
      split at h
      · have := ih _ _ _ _ h
        exact this
      · obtain ⟨y, q, h1, h2⟩ := got_bind h
        have a := ih _ _ _ _ h1
        have b := ih _ _ _ _ h2
        simp only [NT.weak] at a b ⊢; omega
    | loop k z =>
      simp only [prs] at h
      split at h
      · rename_i hk
        have := head_lt hk.1
        obtain ⟨y, q, h1, h2⟩ := got_bind h
        have a := ih _ _ _ _ h1
        split at h2
        · have b := got_len h2
          simp only [NT.weak] at a ⊢; omega
        · have b := ih _ _ _ _ h2
          simp only [NT.weak] at a b ⊢; omega
      · have b := got_len h
        simp only [NT.weak]; omega
    | unary =>
      simp only [prs] at h
      simp only [NT.weak]
      split at h
      · rename_i hb
        have := tail_lt hb
        obtain ⟨y, q, h1, h2⟩ := got_bind h
        have a := ih _ _ _ _ h1
        have b := got_len h2
        simp only [NT.weak] at a; omega
      · split at h
        · rename_i hb
          have := tail_lt hb
          obtain ⟨y, q, h1, h2⟩ := got_bind h
          have a := ih _ _ _ _ h1
          have b := got_len h2
          simp only [NT.weak] at a; omega
        · split at h
          · have a := ih _ _ _ _ h
            exact a
          · split at h
            · have := number_lt h; omega
            · obtain ⟨y, q, h1, h2⟩ := got_bind h
              have := whole_lt h1
              split at h2
              · have b := ih _ _ _ _ h2
                simp only [NT.weak] at b; omega
              · have b := ih _ _ _ _ h2
                simp only [NT.weak] at b; omega
    | asked =>
      simp only [prs] at h
      simp only [NT.weak]
      obtain ⟨y, q, h1, h2⟩ := got_bind h
      have := need_lt h1
      obtain ⟨y2, q2, h3, h4⟩ := got_bind h2
      have a := ih _ _ _ _ h3
      obtain ⟨y3, q3, h5, h6⟩ := got_bind h4
      have := need_lt h5
      have := got_len h6
      omega
    | place s =>
      simp only [prs] at h
      simp only [NT.weak]
      split at h
      · rename_i hb
        have := tail_lt hb
        obtain ⟨y2, q2, h3, h4⟩ := got_bind h
        have a := ih _ _ _ _ h3
        obtain ⟨y3, q3, h5, h6⟩ := got_bind h4
        have := need_lt h5
        have := got_len h6
        omega
      · have := got_len h
        omega
    | call s =>
      simp only [prs] at h
      simp only [NT.weak]
      obtain ⟨y, q, h1, h2⟩ := got_bind h
      have := need_lt h1
      have a := ih _ _ _ _ h2
      omega
    | args s acc =>
      simp only [prs] at h
      simp only [NT.weak]
      split at h
      · obtain ⟨y3, q3, h5, h6⟩ := got_bind h
        have := need_lt h5
        have := got_len h6
        omega
      · obtain ⟨y, q, h1, h2⟩ := got_bind h
        have a := ih _ _ _ _ h1
        split at h2
        · rename_i hb
          have := tail_lt hb
          have b := ih _ _ _ _ h2
          simp only [NT.weak] at a b; omega
        · obtain ⟨y3, q3, h5, h6⟩ := got_bind h2
          have := need_lt h5
          have := got_len h6
          simp only [NT.weak] at a; omega
    | block =>
      simp only [prs] at h
      simp only [NT.weak]
      obtain ⟨y, q, h1, h2⟩ := got_bind h
      have := need_lt h1
      have a := ih _ _ _ _ h2
      omega
    | stats acc =>
      simp only [prs] at h
      simp only [NT.weak]
      split at h
      · rename_i hb
        have := tail_lt hb
        have := got_len h
        omega
      · obtain ⟨y, q, h1, h2⟩ := got_bind h
        have a := ih _ _ _ _ h1
        have b := ih _ _ _ _ h2
        simp only [NT.weak] at a b; omega
    | stat =>
      simp only [prs] at h
      simp only [NT.weak]
      split at h
      · obtain ⟨y1, q1, h1, h2⟩ := got_bind h
        have := label_lt h1
        obtain ⟨y3, q3, h3, h4⟩ := got_bind h2
        have := name_lt h3
        obtain ⟨y5, q5, h5, h6⟩ := got_bind h4
        have := need_lt h5
        obtain ⟨y7, q7, h7, h8⟩ := got_bind h6
        have a := ih _ _ _ _ h7
        have := semi_lt h8
        omega
      split at h
      · rename_i hb
        have := tail_lt hb
        obtain ⟨y1, q1, h1, h2⟩ := got_bind h
        have := whole_lt h1
        obtain ⟨y7, q7, h7, h8⟩ := got_bind h2
        have a := ih _ _ _ _ h7
        have := semi_lt h8
        omega
      split at h
      · rename_i hb
        have := tail_lt hb
        obtain ⟨y1, q1, h1, h2⟩ := got_bind h
        have a := ih _ _ _ _ h1
        obtain ⟨y3, q3, h3, h4⟩ := got_bind h2
        have b := ih _ _ _ _ h3
        split at h4
        · rename_i hb
          have := tail_lt hb
          obtain ⟨y5, q5, h5, h6⟩ := got_bind h4
          have c := ih _ _ _ _ h5
          have := got_len h6
          omega
        · have := got_len h4
          omega
      split at h
      · rename_i hb
        have := tail_lt hb
        obtain ⟨y1, q1, h1, h2⟩ := got_bind h
        have a := ih _ _ _ _ h1
        obtain ⟨y3, q3, h3, h4⟩ := got_bind h2
        have b := ih _ _ _ _ h3
        have := got_len h4
        omega
      split at h
      · rename_i hb
        have := tail_lt hb
        obtain ⟨y1, q1, h1, h2⟩ := got_bind h
        have := label_lt h1
        obtain ⟨y7, q7, h7, h8⟩ := got_bind h2
        have a := ih _ _ _ _ h7
        have := semi_lt h8
        omega
      split at h
      · rename_i hb
        have := tail_lt hb
        obtain ⟨y1, q1, h1, h2⟩ := got_bind h
        have := label_lt h1
        obtain ⟨y3, q3, h3, h4⟩ := got_bind h2
        have := whole_lt h3
        obtain ⟨y7, q7, h7, h8⟩ := got_bind h4
        have a := ih _ _ _ _ h7
        have := semi_lt h8
        omega
      split at h
      · rename_i hb
        have := tail_lt hb
        obtain ⟨y7, q7, h7, h8⟩ := got_bind h
        have a := ih _ _ _ _ h7
        have := semi_lt h8
        omega
      · obtain ⟨y1, q1, h1, h2⟩ := got_bind h
        have := whole_lt h1
        obtain ⟨y3, q3, h3, h4⟩ := got_bind h2
        have a := ih _ _ _ _ h3
        obtain ⟨y5, q5, h5, h6⟩ := got_bind h4
        have := need_lt h5
        obtain ⟨y7, q7, h7, h8⟩ := got_bind h6
        have b := ih _ _ _ _ h7
        have := semi_lt h8
        omega
    | decl =>
      simp only [prs] at h
      simp only [NT.weak]
      obtain ⟨l2, hl2, hle⟩ : ∃ l2, (if isB l [sPub] = true then l.tail else l) = l2 ∧ l2.length ≤ l.length := by
        refine ⟨_, rfl, ?_⟩
        split
        · rename_i hb; have := tail_lt hb; omega
        · exact Nat.le_refl _
      rw [hl2] at h
      split at h
      · rename_i hb
        have := tail_lt hb
        have a := ih _ _ _ _ h
        simp only [NT.weak] at a; omega
      · obtain ⟨y1, q1, h1, h2⟩ := got_bind h
        have := label_lt h1
        obtain ⟨y3, q3, h3, h4⟩ := got_bind h2
        have := name_lt h3
        split at h4
        · rename_i hb
          have := tail_lt hb
          obtain ⟨y5, q5, h5, h6⟩ := got_bind h4
          have := number_lt h5
          obtain ⟨y7, q7, h7, h8⟩ := got_bind h6
          have := need_lt h7
          have := semi_lt h8
          omega
        · have := semi_lt h4
          omega
    | proc pub =>
      simp only [prs] at h
      simp only [NT.weak]
      obtain ⟨y1, q1, h1, h2⟩ := got_bind h
      have := name_lt h1
      obtain ⟨y3, q3, h3, h4⟩ := got_bind h2
      have := need_lt h3
      have a := ih _ _ _ _ h4
      omega
    | params s pub acc =>
      simp only [NT.weak]
      have done : ∀ (acc : List Nd) (l : List Tk), ((pNeed sClose l).bind fun _ l => (pLabel l).bind fun b l =>
          if isB l [sGives] = true then (pLabel l.tail).bind fun g l => (prs n .block l).bind fun x l => .got (.mk 4 s (pub + b + (4 + 4 * g)) (acc ++ [x])) l
          else (prs n .block l).bind fun x l => .got (.mk 4 s (pub + b) (acc ++ [x])) l) = .got x r → r.length + 1 ≤ l.length := by
        intro acc l h
        obtain ⟨y1, q1, h1, h2⟩ := got_bind h
        have := need_lt h1
        obtain ⟨y3, q3, h3, h4⟩ := got_bind h2
        have := label_lt h3
        split at h4
        · rename_i hb
          have := tail_lt hb
          obtain ⟨y5, q5, h5, h6⟩ := got_bind h4
          have := label_lt h5
          obtain ⟨y7, q7, h7, h8⟩ := got_bind h6
          have a := ih _ _ _ _ h7
          have := got_len h8
          omega
        · obtain ⟨y7, q7, h7, h8⟩ := got_bind h4
          have a := ih _ _ _ _ h7
          have := got_len h8
          omega
      simp only [prs] at h
      split at h
      · exact done _ _ h
      · obtain ⟨y1, q1, h1, h2⟩ := got_bind h
        have := label_lt h1
        obtain ⟨y3, q3, h3, h4⟩ := got_bind h2
        have := name_lt h3
        split at h4
        · rename_i hb
          have := tail_lt hb
          have a := ih _ _ _ _ h4
          simp only [NT.weak] at a; omega
        · have := done _ _ h4
          omega
    | module =>
      simp only [prs] at h
      simp only [NT.weak]
      obtain ⟨y1, q1, h1, h2⟩ := got_bind h
      have := need_lt h1
      obtain ⟨y3, q3, h3, h4⟩ := got_bind h2
      have := name_lt h3
      obtain ⟨y5, q5, h5, h6⟩ := got_bind h4
      have := need_lt h5
      have a := ih _ _ _ _ h6
      simp only [NT.weak] at a; omega
    | imports s acc =>
      simp only [prs] at h
      simp only [NT.weak]
      split at h
      · rename_i hb
        have := tail_lt hb
        obtain ⟨y3, q3, h3, h4⟩ := got_bind h
        have := name_lt h3
        obtain ⟨y5, q5, h5, h6⟩ := got_bind h4
        have := need_lt h5
        have a := ih _ _ _ _ h6
        simp only [NT.weak] at a; omega
      · have a := ih _ _ _ _ h
        simp only [NT.weak] at a; omega
    | decls s acc =>
      simp only [prs] at h
      simp only [NT.weak]
      split at h
      · have := got_len h; omega
      · obtain ⟨y1, q1, h1, h2⟩ := got_bind h
        have a := ih _ _ _ _ h1
        have b := ih _ _ _ _ h2
        simp only [NT.weak] at a b; omega
end synm
end Go.Proofs.YtpcihajmcejliabGreatDoor
namespace Go.Proofs.YtpcihajmcejliabGreatDoor
open Go.RowKit
namespace synw
/-- the parser, and the result's cells (nought) -/
structure At (W w0 u : World) (S E A : Nat) (l : List Tk) : Prop where
  pr : PrAt W u S E l
  chg : Chg (fun i => i = S) w0 u
  res : Blk u A zeroNd 66
  hS : S < w0.heap.size
  hA : w0.heap.size ≤ A
theorem At.start {W w : World} {S E : Nat} {l : List Tk} (h : PrAt W w S E l) : At W w (w.alloc (.cells zeroNd 66)) S E w.heap.size l :=
  ⟨h.alloc _, (Chg.refl _ _).alloc _, Blk.made _ _ _, h.lt, Nat.le_refl _⟩
theorem At.call {W w0 u u' : World} {S E A : Nat} {l l' : List Tk} (h : At W w0 u S E A l) (hC : Chg (fun i => i = S) u u') (hP : PrAt W u' S E l') : At W w0 u' S E A l' := by
  have h1 := h.hS; have h2 := h.hA
  exact ⟨hP, h.chg.then hC, h.res.chg hC (by omega), h1, h2⟩
theorem At.extend {W w0 u u' : World} {S E A : Nat} {l : List Tk} (h : At W w0 u S E A l) (hE : Ext u u') : At W w0 u' S E A l := h.call (ext_at hE S) (h.pr.extend hE)
theorem At.alloc {W w0 u : World} {S E A : Nat} {l : List Tk} (h : At W w0 u S E A l) (o : Obj) : At W w0 (u.alloc o) S E A l := h.extend ((Chg.refl _ _).alloc o)
/-- another block of one's own is turned -/
theorem At.far {W w0 u u' : World} {S E A N : Nat} {l : List Tk} (h : At W w0 u S E A l) (hC : Chg (fun i => i = N) u u') (hN : A < N) : At W w0 u' S E A l := by
  have h1 := h.hS; have h2 := h.hA; have h3 := h.pr.hS
  exact ⟨h.pr.chg hC (by omega) (fun i e => by omega), h.chg.trans hC (fun i hi e => by omega), h.res.chg hC (by omega), h1, h2⟩
theorem At.lt {W w0 u : World} {S E A : Nat} {l : List Tk} (h : At W w0 u S E A l) : A < u.heap.size := h.res.lt
theorem At.bld {W w0 u : World} {S E A : Nat} {l : List Tk} (h : At W w0 u S E A l) {N : Nat} {kind num : Int} {text : ByteArray} (hN : Blk u N #[.int .i64 kind, .string text, .int .i64 num, .slice none 0 0] 66) (hAN : A < N) :
    Bld W w0 u S E A N l kind text num (.slice none 0 0) (.slice none 0 0) [] := Bld.start h.pr h.chg h.res hN h.hS h.hA hAN (pr_len h.pr)
theorem Bld.slice3 {W w0 u : World} {S E A N : Nat} {l : List Tk} {kind num : Int} {text : ByteArray} {rowN row : Value} {acc : List Nd} (h : Bld W w0 u S E A N l kind text num rowN row acc) : ∃ a n c, row = .slice a n c := by
  obtain ⟨a, c, h⟩ := h.slice
  exact ⟨a, _, c, h⟩
theorem Bld.at {W w0 u : World} {S E A N : Nat} {l : List Tk} {kind num : Int} {text : ByteArray} {rowN row : Value} {acc : List Nd} (h : Bld W w0 u S E A N l kind text num rowN row acc) : At W w0 u S E A l := ⟨h.pr, h.chg, h.res, h.hS, h.hA⟩
theorem nd_form {w : World} {x : Nd} {v : Value} (h : NdAt w x v) : ∃ k t m a n c, v = .agg #[.int .i64 k, .string t, .int .i64 m, .slice a n c] := by
  cases x with
  | mk k t m l =>
    rw [ndAt_mk] at h
    obtain ⟨a, c, rfl, -⟩ := h
    exact ⟨_, _, _, _, _, _, rfl⟩
/-- a node is told: its cells go into the result's -/
theorem ret_value {W w0 u : World} {S E A : Nat} {l : List Tk} {T : Out Nd} {x : Nd} {a b c d : Value} (h : At W w0 u S E A l) (M : Nat → Bool) (hx : NdAt (hide M u) x (.agg #[a, b, c, d])) (hMA : M A = true) (hM0 : ∀ i, i < w0.heap.size → M i = true) (hT : T = .got x l) :
    Pst (VN w0.heap.size) W w0 S E T (.returned (.agg #[a, b, c, d])) ((((u.setCell ⟨A, 0, none⟩ a).setCell ⟨A, 1, none⟩ b).setCell ⟨A, 2, none⟩ c).setCell ⟨A, 3, none⟩ d) := by
  have h1 := h.hS; have h2 := h.hA; have hWS := h.pr.hS
  have hC : Chg (fun i => i = A) u ((((u.setCell ⟨A, 0, none⟩ a).setCell ⟨A, 1, none⟩ b).setCell ⟨A, 2, none⟩ c).setCell ⟨A, 3, none⟩ d) := chg_set (chg_set (chg_set (chg_set (Chg.refl _ _) 0 a) 1 b) 2 c) 3 d
  refine Pst.reads (h.chg.trans hC fun i hi e => by omega) hT ?_ (h.pr.chg hC (by omega) (fun i e => by omega))
  refine ndAt_keeps (keeps_hide (Nat.le_refl _) fun i hi hm => ⟨?_, rfl⟩) _ _ (ndAt_keeps (keeps_chg hC fun i _ e => by rw [e]; exact hMA) _ _ hx)
  simp only [below, decide_eq_false_iff_not]
  intro hlt
  rw [hM0 i hlt] at hm
  cases hm
def hidB (B N : Nat) : Nat → Bool := fun i => decide (i < B) || decide (i = N)
theorem below_yes {i B : Nat} (h : i < B) : below B i = true := by simpa [below] using h
theorem hidB_yes {i B N : Nat} (h : i < B) : hidB B N i = true := by simp [hidB, h]
/-- a node in a variable of one's own -/
structure Loc (S B N : Nat) (u : World) (x : Nd) (v : Value) : Prop where
  nd : Blk u N v.cells 66
  dat : NdAt (hide (hidB B N) u) x v
  hSB : S < B
  hSN : S ≠ N
theorem Loc.call {S B N : Nat} {u u' : World} {x : Nd} {v : Value} (h : Loc S B N u x v) (hC : Chg (fun i => i = S) u u') : Loc S B N u' x v :=
  ⟨h.nd.chg hC fun e => h.hSN e.symm, ndAt_keeps (keeps_chg hC fun i _ e => by rw [e]; exact hidB_yes h.hSB) _ _ h.dat, h.hSB, h.hSN⟩
theorem Loc.extend {S B N : Nat} {u u' : World} {x : Nd} {v : Value} (h : Loc S B N u x v) (hE : Ext u u') : Loc S B N u' x v := h.call (ext_at hE S)
theorem Loc.start {S B : Nat} {u : World} {x : Nd} {v : Value} (h : VN B x v u) (hSB : S < B) (hB : B ≤ u.heap.size) {c : Array Value} (hc : v.cells = c) : Loc S B u.heap.size (u.alloc (.cells c 66)) x v := by
  subst hc
  refine ⟨Blk.made _ _ _, ndAt_keeps (keeps_hide (by simp) fun i hi hm => ?_) _ _ h, hSB, by omega⟩
  simp only [below, hidB, decide_eq_false_iff_not, Bool.or_eq_false_iff] at hm ⊢
  exact ⟨⟨hm, by omega⟩, Below.heap_alloc _ _ _ hi⟩
/-- a row of one kid -/
theorem nd_row1 {u : World} {M : Nat → Bool} {x : Nd} {v : Value} (hx : NdAt (hide M u) x v) (hM : M u.heap.size = false) (k m : Int) (t : ByteArray) (ht : t.size ≤ 10000) {c : Array Value} (hc : v.cells = c) :
    NdAt (hide M (u.alloc (.cells c 66))) (.mk k t m [x]) (.agg #[.int .i64 k, .string t, .int .i64 m, .slice (some ⟨u.heap.size, 0, none⟩) 1 1]) := by
  subst hc
  have hE := (Chg.refl (fun _ => False) u).alloc (.cells v.cells 66)
  rw [ndAt_mk]
  refine ⟨_, 1, rfl, by simp, by decide, ht, fun j hj => ⟨_, _, rfl, by rw [hide_size]; simp, v, ?_, nd_size hx, fun i hi => ?_⟩⟩
  · obtain rfl : j = 0 := by simpa using hj
    exact ndAt_keeps (keeps_chg hE fun _ _ h => h.elim) _ _ hx
  · obtain rfl : j = 0 := by simpa using hj
    rw [hide_cell _ _ _ hM, Nat.zero_mul, Nat.zero_add]
    exact (Blk.made u v.cells 66).cell i
/-- a row of two kids -/
theorem nd_row2 {u : World} {M : Nat → Bool} {x y : Nd} {v z : Value} (hx : NdAt (hide M u) x v) (hy : NdAt (hide M u) y z) (hM : M u.heap.size = false) (k m : Int) (t : ByteArray) (ht : t.size ≤ 10000) {c : Array Value} (hc : v.cells ++ z.cells = c) :
    NdAt (hide M (u.alloc (.cells c 66))) (.mk k t m [x, y]) (.agg #[.int .i64 k, .string t, .int .i64 m, .slice (some ⟨u.heap.size, 0, none⟩) 2 2]) := by
  subst hc
  have hE := (Chg.refl (fun _ => False) u).alloc (.cells (v.cells ++ z.cells) 66)
  have h1 := nd_size hx
  have h2 := nd_size hy
  rw [ndAt_mk]
  refine ⟨_, 2, rfl, by simp, by decide, ht, fun j hj => ⟨_, _, rfl, by rw [hide_size]; simp, ?_⟩⟩
  have hj2 : j < 2 := by simpa using hj
  by_cases e : j = 0
  · subst e
    refine ⟨v, ndAt_keeps (keeps_chg hE fun _ _ h => h.elim) _ _ hx, h1, fun i hi => ?_⟩
    rw [hide_cell _ _ _ hM, Nat.zero_mul, Nat.zero_add, (Blk.made u _ 66).cell i, Array.getElem?_append_left (by omega)]
  · obtain rfl : j = 1 := by omega
    refine ⟨z, ndAt_keeps (keeps_chg hE fun _ _ h => h.elim) _ _ hy, h2, fun i hi => ?_⟩
    rw [hide_cell _ _ _ hM, Nat.zero_add, Nat.one_mul, (Blk.made u _ 66).cell (4 + i), Array.getElem?_append_right (by omega), h1]
    congr 1; omega
/-- a row of one kid as a row that may grow -/
theorem grow_one {u : World} {B N : Nat} {x : Nd} {v : Value} (hx : VN B x v u) (hN : N + 1 ≤ B) (hB : B ≤ u.heap.size) {c : Array Value} (hc : v.cells = c) : Grow 4 66 VNd (N + 1) (u.alloc (.cells c 66)) (.slice (some ⟨u.heap.size, 0, none⟩) 1 1) [x] := by
  subst hc
  have hs := nd_size hx
  refine ⟨[v], rfl, ⟨by simp [hs], .inr ⟨u.heap.size, 1, v.cells, rfl, by omega, heap_alloc_new u _, Nat.le_refl _, by decide, by rw [hs], by simp only [List.length_singleton, Nat.one_mul, List.flatMap_cons, List.flatMap_nil, List.append_nil]; exact List.take_of_length_le (by rw [Array.length_toList, hs]; exact Nat.le_refl _)⟩⟩, fun j hj hj' => ?_⟩
  obtain rfl : j = 0 := by simpa using hj
  refine ⟨ndAt_keeps (keeps_hide (by simp) fun i hi hm => ?_) _ _ hx, hs⟩
  simp only [below, rowHid, decide_eq_false_iff_not, Bool.or_eq_false_iff] at hm ⊢
  refine ⟨⟨by omega, fun e => ?_⟩, Below.heap_alloc _ _ _ hi⟩
  simp only [Value.ownBlock, Option.some.injEq] at e
  omega
/-- another node in the variable -/
theorem Bld.put {W w0 u : World} {S E A N : Nat} {l : List Tk} {k0 m0 kind num : Int} {t0 text : ByteArray} {r0 r1 row : Value} {acc0 acc : List Nd} (h : Bld W w0 u S E A N l k0 t0 m0 r0 r1 acc0) (hg : Grow 4 66 VNd (N + 1) u row acc) (hf : acc.length + l.length ≤ 10000) :
    Bld W w0 ((((u.setCell ⟨N, 0, none⟩ (.int .i64 kind)).setCell ⟨N, 1, none⟩ (.string text)).setCell ⟨N, 2, none⟩ (.int .i64 num)).setCell ⟨N, 3, none⟩ row) S E A N l kind text num row row acc := by
  have h1 := h.hS; have h2 := h.hA; have h3 := h.hAN
  have hWS := h.pr.hS
  have hC : Chg (fun i => i = N) u ((((u.setCell ⟨N, 0, none⟩ (.int .i64 kind)).setCell ⟨N, 1, none⟩ (.string text)).setCell ⟨N, 2, none⟩ (.int .i64 num)).setCell ⟨N, 3, none⟩ row) := chg_set (chg_set (chg_set (chg_set (Chg.refl _ _) 0 _) 1 _) 2 _) 3 _
  refine ⟨h.pr.chg hC (by omega) (fun i e => by omega), h.chg.trans hC (fun i hi e => by omega), h.res.chg hC (by omega), ?_, hg.chg vnd_keeps hC (fun i e => by omega), h1, h2, h3, hf⟩
  have := (((h.nd.set 0 (.int .i64 kind)).set 1 (.string text)).set 2 (.int .i64 num)).set 3 row
  exact this
end synw
end Go.Proofs.YtpcihajmcejliabGreatDoor
