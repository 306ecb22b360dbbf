/- The reference's reader: a node that is being built; calls, blocks. -/
import Derived.Test.YtpcihajmcejliabGreatDoorSynR4
import Derived.Deep.CutBlock
import Derived.Deep.DeepCutAuto
import Derived.Deep.LoopGhost
import Derived.Deep.AppendLies
namespace Go.Proofs.YtpcihajmcejliabGreatDoor
open Go.RowKit
namespace synr
open synw
structure RBld (W w0 u : World) (S A N : Nat) (l : List Tk) (b : Bool) (kind : Int) (text : ByteArray) (num : Int) (rowN row : Value) (acc : List Nd) : Prop where
  at_ : RAt W w0 u S A l b
  nd : Blk u N #[.int .i64 kind, .string text, .int .i64 num, rowN] 66
  grow : Grow 4 66 VNd (N + 1) u row acc
  hAN : A < N
theorem RBld.start {W w0 u : World} {S A : Nat} {l : List Tk} {b : Bool} (h : RAt W w0 u S A l b) (kind : Int) (text : ByteArray) (num : Int) :
    RBld W w0 (u.alloc (.cells #[.int .i64 kind, .string text, .int .i64 num, .slice none 0 0] 66)) S A u.heap.size l b kind text num (.slice none 0 0) (.slice none 0 0) [] :=
  ⟨h.alloc _, Blk.made _ _ _, Grow.nil _ _ _ _ _, h.lt⟩
theorem RBld.lt {W w0 u : World} {S A N : Nat} {l : List Tk} {b : Bool} {kind num : Int} {text : ByteArray} {rowN row : Value} {acc : List Nd} (h : RBld W w0 u S A N l b kind text num rowN row acc) : N < u.heap.size := h.nd.lt
theorem RBld.call {W w0 u u' : World} {S A N : Nat} {l l' : List Tk} {b b' : Bool} {kind num : Int} {text : ByteArray} {rowN row : Value} {acc : List Nd} (h : RBld W w0 u S A N l b kind text num rowN row acc) (hC : Chg (fun i => i = S) u u') (hP : RdrAt W u' S l' b') :
    RBld W w0 u' S A N l' b' kind text num rowN row acc := by
  have h1 := h.at_.hS; have h2 := h.at_.hA; have h3 := h.hAN
  exact ⟨h.at_.call hC hP, h.nd.chg hC (by omega), h.grow.chg vnd_keeps hC (fun i hi => by omega), h3⟩
theorem RBld.extend {W w0 u u' : World} {S A N : Nat} {l : List Tk} {b : Bool} {kind num : Int} {text : ByteArray} {rowN row : Value} {acc : List Nd} (h : RBld W w0 u S A N l b kind text num rowN row acc) (hE : Ext u u') : RBld W w0 u' S A N l b kind text num rowN row acc :=
  h.call (ext_at hE S) (h.at_.pr.extend hE)
theorem RBld.slice3 {W w0 u : World} {S A N : Nat} {l : List Tk} {b : Bool} {kind num : Int} {text : ByteArray} {rowN row : Value} {acc : List Nd} (h : RBld W w0 u S A N l b kind text num rowN row acc) : ∃ a c, row = .slice a acc.length c := by
  obtain ⟨us, _, ho, _⟩ := h.grow.ex
  rcases ho.2 with ⟨rfl, h0⟩ | ⟨g, cap, cur, rfl, _⟩
  · exact ⟨_, _, by rw [h0]⟩
  · exact ⟨_, _, rfl⟩
theorem RBld.own {W w0 u : World} {S A N : Nat} {l : List Tk} {b : Bool} {kind num : Int} {text : ByteArray} {rowN row : Value} {acc : List Nd} (h : RBld W w0 u S A N l b kind text num rowN row acc) : ∀ i, row.ownBlock = some i → N + 1 ≤ i ∧ i < u.heap.size := by
  obtain ⟨us, _, ho, _⟩ := h.grow.ex
  exact fun i e => World.ownsRow.lt ho i e
/-- a field of the node is set -/
theorem RBld.kind {W w0 u : World} {S A N : Nat} {l : List Tk} {b : Bool} {kind num : Int} {text : ByteArray} {rowN row : Value} {acc : List Nd} (h : RBld W w0 u S A N l b kind text num rowN row acc) (k : Int) : RBld W w0 (u.setCell ⟨N, 0, none⟩ (.int .i64 k)) S A N l b k text num rowN row acc := by
  have h3 := h.hAN
  have hC := chg_set (S := N) (Chg.refl _ u) 0 (.int .i64 k)
  exact ⟨h.at_.far hC (fun i e => by omega), by have := h.nd.set 0 (.int .i64 k); exact this, h.grow.chg vnd_keeps hC (fun i e => by omega), h3⟩
theorem RBld.text {W w0 u : World} {S A N : Nat} {l : List Tk} {b : Bool} {kind num : Int} {text : ByteArray} {rowN row : Value} {acc : List Nd} (h : RBld W w0 u S A N l b kind text num rowN row acc) (s : ByteArray) : RBld W w0 (u.setCell ⟨N, 1, none⟩ (.string s)) S A N l b kind s num rowN row acc := by
  have h3 := h.hAN
  have hC := chg_set (S := N) (Chg.refl _ u) 1 (.string s)
  exact ⟨h.at_.far hC (fun i e => by omega), by have := h.nd.set 1 (.string s); exact this, h.grow.chg vnd_keeps hC (fun i e => by omega), h3⟩
theorem RBld.num {W w0 u : World} {S A N : Nat} {l : List Tk} {b : Bool} {kind num : Int} {text : ByteArray} {rowN row : Value} {acc : List Nd} (h : RBld W w0 u S A N l b kind text num rowN row acc) (m : Int) : RBld W w0 (u.setCell ⟨N, 2, none⟩ (.int .i64 m)) S A N l b kind text m rowN row acc := by
  have h3 := h.hAN
  have hC := chg_set (S := N) (Chg.refl _ u) 2 (.int .i64 m)
  exact ⟨h.at_.far hC (fun i e => by omega), by have := h.nd.set 2 (.int .i64 m); exact this, h.grow.chg vnd_keeps hC (fun i e => by omega), h3⟩
/-- the row has grown -/
theorem RBld.more {W w0 u u' : World} {S A N : Nat} {l : List Tk} {b : Bool} {kind num : Int} {text : ByteArray} {rowN row row1 : Value} {acc acc1 : List Nd} (h : RBld W w0 u S A N l b kind text num rowN row acc) (hG : Grow 4 66 VNd (N + 1) u' row1 acc1) (hC : Chg (fun i => row.ownBlock = some i) u u') :
    RBld W w0 u' S A N l b kind text num rowN row1 acc1 := by
  have h3 := h.hAN
  have ho := h.own
  exact ⟨h.at_.far hC (fun i e => by have := ho i e; omega), h.nd.chg hC (fun e => by have := ho _ e; omega), hG, h3⟩
theorem RBld.put {W w0 u : World} {S A N : Nat} {l : List Tk} {b : Bool} {kind num : Int} {text : ByteArray} {rowN row : Value} {acc : List Nd} (h : RBld W w0 u S A N l b kind text num rowN row acc) :
    RBld W w0 ((((u.setCell ⟨N, 0, none⟩ (.int .i64 kind)).setCell ⟨N, 1, none⟩ (.string text)).setCell ⟨N, 2, none⟩ (.int .i64 num)).setCell ⟨N, 3, none⟩ row) S A N l b kind text num row row acc := by
  have h3 := h.hAN
  have hC := chg_set (S := N) (chg_set (chg_set (chg_set (Chg.refl _ u) 0 (.int .i64 kind)) 1 (.string text)) 2 (.int .i64 num)) 3 row
  exact ⟨h.at_.far hC (fun i e => by omega), by have := (((h.nd.set 0 (.int .i64 kind)).set 1 (.string text)).set 2 (.int .i64 num)).set 3 row; exact this, h.grow.chg vnd_keeps hC (fun i e => by omega), h3⟩
theorem RBld.put3 {W w0 u : World} {S A N : Nat} {l : List Tk} {b : Bool} {kind num : Int} {text : ByteArray} {rowN row : Value} {acc : List Nd} (h : RBld W w0 u S A N l b kind text num rowN row acc) : RBld W w0 (u.setCell ⟨N, 3, none⟩ row) S A N l b kind text num row row acc := by
  have h3 := h.hAN
  have hC := chg_set (S := N) (Chg.refl _ u) 3 row
  exact ⟨h.at_.far hC (fun i e => by omega), by have := h.nd.set 3 row; exact this, h.grow.chg vnd_keeps hC (fun i e => by omega), h3⟩
/-- the node is told -/
theorem RBld.ret {W w0 u : World} {S A N : Nat} {l : List Tk} {b : Bool} {kind num : Int} {text : ByteArray} {rowN row : Value} {acc : List Nd} {T : Out Nd} (h : RBld W w0 u S A N l b kind text num rowN row acc) (ht : text.size ≤ 10000) (hT : stO b l (.got (.mk kind text num acc) l) = T) :
    Rst (VN w0.heap.size) W w0 S T (.returned (.agg #[.int .i64 kind, .string text, .int .i64 num, row])) ((((u.setCell ⟨A, 0, none⟩ (.int .i64 kind)).setCell ⟨A, 1, none⟩ (.string text)).setCell ⟨A, 2, none⟩ (.int .i64 num)).setCell ⟨A, 3, none⟩ row) := by
  have h3 := h.hAN; have h2 := h.at_.hA
  exact ret_value h.at_ (below (N + 1)) (ndAt_grow h.grow ht) (below_yes (by omega)) (fun i hi => below_yes (by omega)) hT
/-- a kid in a variable of its own -/
structure Kid (S N X : Nat) (row : Value) (u : World) (x : Nd) (v : Value) : Prop where
  nd : Blk u X v.cells 66
  dat : NdAt (hide (rowHid (N + 1) row) u) x v
  hSN : S < N
  hNX : N < X
  own : row.ownBlock ≠ some X
theorem Kid.call {S N X : Nat} {row : Value} {u u' : World} {x : Nd} {v : Value} (h : Kid S N X row u x v) (hC : Chg (fun i => i = S) u u') : Kid S N X row u' x v := by
  have h1 := h.hSN; have h2 := h.hNX
  exact ⟨h.nd.chg hC (by omega), ndAt_keeps (keeps_chg hC fun i _ e => by simp [rowHid]; omega) _ _ h.dat, h1, h2, h.own⟩
theorem Kid.extend {S N X : Nat} {row : Value} {u u' : World} {x : Nd} {v : Value} (h : Kid S N X row u x v) (hE : Ext u u') : Kid S N X row u' x v := h.call (ext_at hE S)
theorem Kid.far {S N X : Nat} {row : Value} {u u' : World} {x : Nd} {v : Value} (h : Kid S N X row u x v) (hC : Chg (fun i => i = N) u u') : Kid S N X row u' x v := by
  have h1 := h.hSN; have h2 := h.hNX
  exact ⟨h.nd.chg hC (by omega), ndAt_keeps (keeps_chg hC fun i _ e => by simp [rowHid]; omega) _ _ h.dat, h1, h2, h.own⟩
theorem Kid.start {S N B : Nat} {row : Value} {u : World} {x : Nd} {v : Value} (h : VN B x v u) (hSN : S < N) (hNB : N < B) (hr : ∀ i, row.ownBlock = some i → i < B) (hB : B ≤ u.heap.size) {c : Array Value} (hc : v.cells = c) : Kid S N u.heap.size row (u.alloc (.cells c 66)) x v := by
  subst hc
  refine ⟨Blk.made _ _ _, ndAt_keeps (keeps_hide (by simp) fun i hi hm => ?_) _ _ h, hSN, by omega, fun e => by have := hr _ e; omega⟩
  simp only [below, rowHid, decide_eq_false_iff_not, Bool.or_eq_false_iff] at hm ⊢
  exact ⟨⟨by omega, fun e => by have := hr _ e; omega⟩, Below.heap_alloc _ _ _ hi⟩
/-- the row has grown by another -/
theorem Kid.more {S N X g n c : Nat} {row : Value} {u u' : World} {x : Nd} {v : Value} (h : Kid S N X row u x v) (hC : Chg (fun i => row.ownBlock = some i) u u') (hg : row.ownBlock = some g ∨ u.heap.size ≤ g) (_hr : ∀ i, row.ownBlock = some i → N + 1 ≤ i) : Kid S N X (.slice (some ⟨g, 0, none⟩) n c) u' x v := by
  have h1 := h.hSN; have h2 := h.hNX; have h4 := h.nd.lt
  have e : ∀ j, (Value.slice (some ⟨g, 0, none⟩) n c).ownBlock = some j → j = g := fun j h => by simpa [Value.ownBlock] using h.symm
  refine ⟨h.nd.chg hC h.own, ndAt_keeps (keeps_hide hC.size fun i hi hm => ?_) _ _ h.dat, h1, h2, fun q => ?_⟩
  · simp only [rowHid, decide_eq_false_iff_not, Bool.or_eq_false_iff] at hm ⊢
    refine ⟨⟨hm.1, fun q => ?_⟩, hC.block i hi hm.2⟩
    have := e i q
    subst this
    rcases hg with hg | hg
    · exact hm.2 hg
    · omega
  · have := e X q
    subst this
    rcases hg with hg | hg
    · exact h.own hg
    · omega
theorem pushed {u w4 : World} {B : Nat} {row : Value} {acc : List Nd} {x : Nd} {v : Value} {us : List Value} {o : Obj} {g c : Nat} (hu1 : us.length = acc.length) (hu3 : ∀ j (h : j < acc.length) (h' : j < us.length), VNd acc[j] us[j] (hide (rowHid B row) u) ∧ us[j].cells.size = 4) (hx : NdAt (hide (rowHid B row) u) x v)
    (hown : w4.ownsRow B 66 4 (.slice (some ⟨g, 0, none⟩) (acc.length + 1) c) (acc.length + 1) (us.flatMap (fun u => u.cells.toList) ++ v.cells.toList)) (hgrow : (u.alloc o).grownBy w4 row.ownBlock) (hat : row.ownBlock = some g ∨ g = u.heap.size + 1) :
    Grow 4 66 VNd B w4 (.slice (some ⟨g, 0, none⟩) (acc.length + 1) c) (acc ++ [x]) ∧ Chg (fun i => row.ownBlock = some i) u w4 ∧ (row.ownBlock = some g ∨ u.heap.size ≤ g) := by
  have hC := grown_low hgrow (Chg.refl _ u)
  refine ⟨Grow.push vnd_keeps hu1 hu3 hx (nd_size hx) hown hC.size (fun i hi hn => hC.block i hi hn) (fun i hi => ?_), hC, by rcases hat with h | h; exact .inl h; exact .inr (by omega)⟩
  have e : g = i := by simpa [Value.ownBlock] using hi
  subst e
  rcases hat with h | h
  · exact .inl h
  · exact .inr (by omega)
/-- what is left of a call's arguments -/
def argsQ (n : Nat) (s : ByteArray) (acc : List Nd) (l : List Tk) : Out Nd := match n with
  | 0 => .out
  | n + 1 => (prs n .expr l).bind fun x l => if isB l [sComma] = true then prs n (.args s (acc ++ [x])) l.tail else (pNeed sClose l).bind fun _ l => .got (.mk 18 s 0 (acc ++ [x])) l
theorem args_open {n : Nat} {s : ByteArray} {l : List Tk} {b : Bool} {T : Out Nd} (h : stO b l (prs n (.args s []) l) = T) (hT : T ≠ .out) : stO b l (if isB l [sClose] = true then .got (.mk 18 s 0 []) l.tail else argsQ n s [] l) = T := by
  cases b with
  | true => exact h
  | false =>
    cases n with
    | zero => exact absurd h.symm hT
    | succ n =>
      have h2 : prs (n + 1) (.args s []) l = T := h
      simp only [prs] at h2
      show (if _ then _ else _) = T
      rw [← h2]
      cases hi : isB l [sClose] with
      | true => simp [pNeed, hi, Out.bind]
      | false => simp [argsQ]
theorem args_next {n : Nat} {s : ByteArray} {acc : List Nd} {x : Nd} {l : List Tk} {b : Bool} {T : Out Nd} (h : stO b l (prs n (.args s (acc ++ [x])) l) = T) (hT : T ≠ .out) : stO b l (argsQ n s (acc ++ [x]) l) = T := by
  cases b with
  | true => exact h
  | false =>
    cases n with
    | zero => exact absurd h.symm hT
    | succ n =>
      have h2 : prs (n + 1) (.args s (acc ++ [x])) l = T := h
      simp only [prs] at h2
      rw [← h2]
      simp [stO, argsQ]
theorem rel_lt {n : Nat} {X : NT} {l l2 : List Tk} {x : Nd} {b2 : Bool} (h : Rel (stO false l (prs n X l)) x l2 b2) (hne : prs n X l ≠ .out) (hb : b2 = false) : l2.length + X.weak ≤ l.length := by
  have h2 : Rel (prs n X l) x l2 b2 := h
  cases hp : prs n X l with
  | out => exact absurd hp hne
  | bad q => rw [hp] at h2; obtain ⟨_, h3⟩ := h2; rw [hb] at h3; cases h3
  | got y q => rw [hp] at h2; obtain ⟨_, rfl, _⟩ := h2; exact synm.prs_lt _ _ _ _ _ hp
set_option maxRecDepth 100000 in
set_option maxHeartbeats 4000000 in
theorem call_step {b0 g0 : Bool} {n : Nat} {s : ByteArray} (dG : ∀ m, m ≤ n → RC b0 true m .expr) {W w : World} {S : Nat} {l : List Tk} {b : Bool} (h : RdrAt W w S l b) (hb : b0 = true → b = true) (_hg : g0 = true → b = false) (hs : s.size ≤ 7000) (hne : stO b l (prs (n + 1) (.call s) l) ≠ .out) :
    Calls Tryz.prog 260 #[.pointer (some ⟨S, 0, none⟩), .string s] w (Rst (VN w.heap.size) W w S (stO b l (prs (n + 1) (.call s) l))) := by
  obtain ⟨T, hT⟩ : ∃ T, stO b l (prs (n + 1) (.call s) l) = T := ⟨_, rfl⟩
  rw [hT] at hne ⊢
  simp only [prs] at hT
  have HT := Lib.hid hT
  have HNE := Lib.hid hne
  have HBD := Lib.hid hb
  have HAT : Hid (RAt W w (w.alloc (.cells #[.int .i64 0, .string ⟨#[]⟩, .int .i64 0, .slice none 0 0] 66)) S w.heap.size l b) := Lib.hid (RAt.start h)
  obtain ⟨A, hA⟩ : ∃ A, w.heap.size = A := ⟨_, rfl⟩
  rw [hA] at HAT
  have hSA : S < A := by have := h.lt; omega
  clear h hb _hg hne hT
  go_enter Tryz.func260, Tryz.ntmps260
  go_upto_region 1 with (fail)
  generalize w.alloc (.cells #[.int .i64 0, .string ⟨#[]⟩, .int .i64 0, .slice none 0 0] 66) = u0 at *
  have HB := Lib.hid (RBld.start HAT.out 18 s 0)
  obtain ⟨N, hN⟩ : ∃ N, u0.heap.size = N := ⟨_, rfl⟩
  rw [hN] at HB
  have hSN : S < N := by have := HAT.out.lt; omega
  have hAN : A < N := by have := HAT.out.lt; omega
  clear HAT
  go_upto_region 2 with (fail)
  generalize u0.alloc (.cells #[.int .i64 18, .string s, .int .i64 0, .slice none 0 0] 66) = v0 at *
  have HAT := Lib.hid HB.out.at_
  have HN := Lib.hid (must_any HAT.out.pr sOpen (by decide))
  go_wp2_with fail
  refine HN.out.mono ?_
  rintro e u1 ⟨hC, _, _, l1, b1, rfl, rfl, hP, hrel⟩
  replace HT := Lib.hid (now_bind HT.out HNE.out hrel)
  replace HBD := Lib.hid (rel_bad (b0 := b0) hrel (by first | exact HBD.out | exact fun _ => rfl | (intro e; have := HBD.out; simp_all)))
  replace HB := Lib.hid (HB.out.call hC hP)
  replace HAT := Lib.hid HB.out.at_
  clear hC hP hrel HN
  replace HT := Lib.hid (args_open HT.out HNE.out)
  have HN := Lib.hid (eat_any HAT.out.pr sClose (by decide))
  have HY := Lib.hid (fun he => now_eat2 HT.out he)
  have HO := Lib.hid (fun he => now_not HT.out he)
  clear HT
  generalize (!b1 && isB l1 [sClose]) = R at *
  go_wp2_with fail
  refine HN.out.mono ?_
  rintro e u2 ⟨rfl, hC, hP⟩
  cases R with
  | false =>
    replace hP : RdrAt W u2 S l1 b1 := by simpa using hP
    have HT := Lib.hid (HO.out (by trivial))
    replace HB := Lib.hid (HB.out.call hC hP)
    replace HAT := Lib.hid HB.out.at_
    clear hC hP HN HY HO
    have hL0 := HAT.out.pr.len
    go_wp2_with fail
    go_loopg [6] n (fun kk on wr => ∃ (o : Bool) (l2 : List Tk) (b2 : Bool) (acc : List Nd) (row : Value), on = .bool o ∧ kk ≤ n ∧ Hid (b0 = true → b2 = true) ∧ Hid (stO b2 l2 (if o = true then argsQ kk s acc l2 else (pNeed sClose l2).bind fun _ l => .got (.mk 18 s 0 acc) l) = T) ∧ Hid (RBld W w wr S A N l2 b2 18 s 0 row row acc) ∧ Hid (b2 = false → acc.length + l2.length ≤ 10000))
    case atStart => exact ⟨true, l1, b1, [], .slice none 0 0, rfl, Nat.le_refl _, HBD, HT, HB, Lib.hid (fun _ => by simpa using hL0)⟩
    clear HT HB HAT HBD hL0
    case round =>
      obtain ⟨o, lr, br, acc, row, rfl, hkn, HBD, HT, HB, HLE⟩ := hrel
      have HAT := Lib.hid HB.out.at_
      obtain ⟨ra_, rn_, rc_, rk_, hbk, -, -⟩ := rdr_blk HAT.out.pr
      have c2 := hbk.cell 2
      simp at c2
      clear hbk
      cases o with
      | false =>
        replace HT := Lib.hid (show stO br lr ((pNeed sClose lr).bind fun _ l => .got (.mk 18 s 0 acc) l) = T from HT.out)
        go_wp2_with fail
        have HN := Lib.hid (must_any HAT.out.pr sClose (by decide))
        go_wp2_with fail
        refine HN.out.mono ?_
        rintro e u3 ⟨hC, _, _, l3, b3, rfl, rfl, hP, hrel⟩
        replace HT := Lib.hid (now_bind HT.out HNE.out hrel)
        replace HBD := Lib.hid (rel_bad (b0 := b0) hrel (by first | exact HBD.out | exact fun _ => rfl | (intro e; have := HBD.out; simp_all)))
        replace HB := Lib.hid (HB.out.call hC hP)
        replace HAT := Lib.hid HB.out.at_
        clear hC hP hrel HN
        obtain ⟨ra, rc, hrow⟩ := HB.out.slice3
        first | subst hrow | clear hrow
        have n0 := HB.out.nd.cell
        have r0 := HB.out.at_.res.cell
        have rf := HB.out.at_.res.frozen
        have rl := HB.out.at_.res.lt
        unfold zeroNd at r0
        go_wp2_with fail
        refine ends_at rfl rfl rfl ((((HB.out.at_.res.set 0 _).set 1 _).set 2 _).set 3 _) Tryz.underlying66 rfl (by kernel_rfl) ?_
        first | exact HB.out.ret (by omega) HT.out | (subst hA; exact HB.out.ret (by omega) HT.out)
      | true =>
        cases br with
        | false =>
          replace HT := Lib.hid (show stO false lr (argsQ gk s acc lr) = T from HT.out)
          cases gk with
          | zero => exact absurd HT.out.symm HNE.out
          | succ m =>
            have HT0 := HT.out
            clear HT
            simp only [argsQ] at HT0
            have HT := Lib.hid HT0
            clear HT0
            have HNX := Lib.hid (fun e => now_ne HT.out HNE.out e : prs m .expr lr ≠ .out)
            obtain ⟨B, hB⟩ : ∃ B, wr.heap.size = B := ⟨_, rfl⟩
            have hNB := HB.out.lt
            have HOW := Lib.hid HB.out.own
            rw [hB] at hNB HOW
            have HN := Lib.hid ((dG m (by omega)) _ _ HAT.out.pr (by first | exact HBD.out | exact fun _ => rfl | (intro e; have := HBD.out; simp_all)) (fun _ => rfl) rfl trivial (now_ne HT.out HNE.out))
            go_wp2_with fail
            refine HN.out.mono ?_
            rintro e u4 ⟨hC, x4, v4, l4, b4, rfl, hv, hP, hrel⟩
            have HLT := Lib.hid (fun e => rel_lt hrel HNX.out e)
            replace HT := Lib.hid (now_bind HT.out HNE.out hrel)
            replace HBD := Lib.hid (rel_bad (b0 := b0) hrel (by first | exact HBD.out | exact fun _ => rfl | (intro e; have := HBD.out; simp_all)))
            replace HB := Lib.hid (HB.out.call hC hP)
            replace HAT := Lib.hid HB.out.at_
            obtain ⟨ka4, ta4, ma4, aa4, na4, ca4, rfl⟩ := nd_form hv
            have HV4 := Lib.hid hv
            have hsz4 : wr.heap.size ≤ u4.heap.size := hC.size
            clear hC hP hrel hv HN
            rw [hB] at HV4 hsz4
            have HK := Lib.hid (Kid.start HV4.out hSN hNB (fun i e => (HOW.out i e).2) hsz4 (c := #[.int .i64 ka4, .string ta4, .int .i64 ma4, .slice aa4 na4 ca4]) rfl)
            have hEx := (Chg.refl (fun _ => False) u4).alloc (.cells #[.int .i64 ka4, .string ta4, .int .i64 ma4, .slice aa4 na4 ca4] 66)
            replace HB := Lib.hid (HB.out.extend hEx)
            replace HAT := Lib.hid HB.out.at_
            clear hEx HOW
            obtain ⟨XHK, hXHK⟩ : ∃ X, u4.heap.size = X := ⟨_, rfl⟩
            rw [hXHK] at HK
            go_upto_region 9 with (fail)
            generalize u4.alloc (.cells #[.int .i64 ka4, .string ta4, .int .i64 ma4, .slice aa4 na4 ca4] 66) = u9 at *
            clear hB hNB hsz4 HV4
            have hle := HLE.out (by trivial)
            clear HAT
            obtain ⟨ra, rc, hrow⟩ := HB.out.slice3
            first | subst hrow | (injection hrow; subst_vars)
            have n0 := HB.out.nd.cell
            have nf := HB.out.nd.frozen
            have nl := HB.out.lt
            have kc := HK.out.nd.cell
            simp only [Value.cells] at kc
            go_wp2_with fail
            refine (more_any HB.out.grow HK.out.dat (by omega) (by omega)).mono ?_
            rintro e w5 ⟨g, c', rfl, hG, hC, hg⟩
            replace HB := Lib.hid (HB.out.more hG hC)
            clear n0 nf nl kc hC hG hg
            have n0 := HB.out.nd.cell
            have nf := HB.out.nd.frozen
            have nl := HB.out.lt
            go_upto_region 7 with (fail)
            replace HB := Lib.hid HB.out.put
            clear n0 nf nl
            generalize ((((w5.setCell ⟨N, 0, none⟩ (.int .i64 18)).setCell ⟨N, 1, none⟩ (.string s)).setCell ⟨N, 2, none⟩ (.int .i64 0)).setCell ⟨N, 3, none⟩ (.slice (some ⟨g, 0, none⟩) (acc.length + 1) c')) = w6 at *
            have HAT := Lib.hid HB.out.at_
            have HN := Lib.hid (eat_any HAT.out.pr sComma (by decide))
            have HY := Lib.hid (fun he => now_eat2 HT.out he)
            have HO := Lib.hid (fun he => now_not HT.out he)
            clear HT
            generalize (!b4 && isB l4 [sComma]) = R at *
            go_wp2_with fail
            refine HN.out.mono ?_
            rintro e u5 ⟨rfl, hC, hP⟩
            cases R with
            | false =>
              replace hP : RdrAt W u5 S l4 b4 := by simpa using hP
              have HT := Lib.hid (HO.out (by trivial))
              replace HB := Lib.hid (HB.out.call hC hP)
              replace HAT := Lib.hid HB.out.at_
              clear hC hP HN HY HO
              go_wp2_with fail
              go_roundg m
              case rel => exact ⟨false, l4, b4, acc ++ [x4], _, rfl, by omega, HBD, HT, HB, Lib.hid (fun e => by have := HLT.out e; simp only [NT.weak, List.length_append, List.length_singleton] at this ⊢; omega)⟩
              case measure => omega
            | true =>
              obtain ⟨hbf, HT0⟩ := HY.out (by trivial)
              first | subst hbf | clear hbf
              replace hP : RdrAt W u5 S l4.tail false := by simpa using hP
              have HT := Lib.hid (HT0 l4.tail)
              replace HB := Lib.hid (HB.out.call hC hP)
              replace HAT := Lib.hid HB.out.at_
              clear hC hP HN HY HO HT0
              go_wp2_with fail
              go_roundg m
              case rel => exact ⟨true, l4.tail, false, acc ++ [x4], _, rfl, by omega, HBD, Lib.hid (args_next HT.out HNE.out), HB, Lib.hid (fun e => by have := HLT.out (by trivial); simp only [NT.weak, List.length_append, List.length_singleton, List.length_tail] at this ⊢; omega)⟩
              case measure => omega
        | true =>
          replace HT := Lib.hid (bad_any (q := (pNeed sClose lr).bind fun _ l => .got (.mk 18 s 0 acc) l) HT.out)
          go_wp2_with fail
          have HN := Lib.hid (must_any HAT.out.pr sClose (by decide))
          go_wp2_with fail
          refine HN.out.mono ?_
          rintro e u6 ⟨hC, _, _, l6, b6, rfl, rfl, hP, hrel⟩
          replace HT := Lib.hid (now_bind HT.out HNE.out hrel)
          replace HBD := Lib.hid (rel_bad (b0 := b0) hrel (by first | exact HBD.out | exact fun _ => rfl | (intro e; have := HBD.out; simp_all)))
          replace HB := Lib.hid (HB.out.call hC hP)
          replace HAT := Lib.hid HB.out.at_
          clear hC hP hrel HN
          obtain ⟨ra, rc, hrow⟩ := HB.out.slice3
          first | subst hrow | clear hrow
          have n0 := HB.out.nd.cell
          have r0 := HB.out.at_.res.cell
          have rf := HB.out.at_.res.frozen
          have rl := HB.out.at_.res.lt
          unfold zeroNd at r0
          go_wp2_with fail
          refine ends_at rfl rfl rfl ((((HB.out.at_.res.set 0 _).set 1 _).set 2 _).set 3 _) Tryz.underlying66 rfl (by kernel_rfl) ?_
          first | exact HB.out.ret (by omega) HT.out | (subst hA; exact HB.out.ret (by omega) HT.out)
  | true =>
    obtain ⟨hbf, HT0⟩ := HY.out (by trivial)
    first | subst hbf | clear hbf
    replace hP : RdrAt W u2 S l1.tail false := by simpa using hP
    have HT := Lib.hid (HT0 l1.tail)
    replace HB := Lib.hid (HB.out.call hC hP)
    replace HAT := Lib.hid HB.out.at_
    clear hC hP HN HY HO HT0
    obtain ⟨ra, rc, hrow⟩ := HB.out.slice3
    first | subst hrow | clear hrow
    have n0 := HB.out.nd.cell
    have r0 := HB.out.at_.res.cell
    have rf := HB.out.at_.res.frozen
    have rl := HB.out.at_.res.lt
    unfold zeroNd at r0
    go_wp2_with fail
    refine ends_at rfl rfl rfl ((((HB.out.at_.res.set 0 _).set 1 _).set 2 _).set 3 _) Tryz.underlying66 rfl (by kernel_rfl) ?_
    first | exact HB.out.ret (by omega) HT.out | (subst hA; exact HB.out.ret (by omega) HT.out)
set_option maxRecDepth 100000 in
set_option maxHeartbeats 4000000 in
theorem block_step {b0 g0 : Bool} {n : Nat} (dG : ∀ m, m ≤ n → RC b0 true m .stat) {W w : World} {S : Nat} {l : List Tk} {b : Bool} (h : RdrAt W w S l b) (hb : b0 = true → b = true) (_hg : g0 = true → b = false) (hne : stO b l (prs (n + 1) (.block) l) ≠ .out) :
    Calls Tryz.prog 162 #[.pointer (some ⟨S, 0, none⟩)] w (Rst (VN w.heap.size) W w S (stO b l (prs (n + 1) (.block) l))) := by
  obtain ⟨T, hT⟩ : ∃ T, stO b l (prs (n + 1) (.block) l) = T := ⟨_, rfl⟩
  rw [hT] at hne ⊢
  simp only [prs] at hT
  have HT := Lib.hid hT
  have HNE := Lib.hid hne
  have HBD := Lib.hid hb
  have HAT : Hid (RAt W w (w.alloc (.cells #[.int .i64 0, .string ⟨#[]⟩, .int .i64 0, .slice none 0 0] 66)) S w.heap.size l b) := Lib.hid (RAt.start h)
  obtain ⟨A, hA⟩ : ∃ A, w.heap.size = A := ⟨_, rfl⟩
  rw [hA] at HAT
  have hSA : S < A := by have := h.lt; omega
  clear h hb _hg hne hT
  go_enter Tryz.func162, Tryz.ntmps162
  go_upto_region 1 with (fail)
  generalize w.alloc (.cells #[.int .i64 0, .string ⟨#[]⟩, .int .i64 0, .slice none 0 0] 66) = u0 at *
  have HB := Lib.hid (RBld.start HAT.out 6 ⟨#[]⟩ 0)
  obtain ⟨N, hN⟩ : ∃ N, u0.heap.size = N := ⟨_, rfl⟩
  rw [hN] at HB
  have hSN : S < N := by have := HAT.out.lt; omega
  have hAN : A < N := by have := HAT.out.lt; omega
  clear HAT
  go_upto_region 2 with (fail)
  generalize u0.alloc (.cells #[.int .i64 6, .string ⟨#[]⟩, .int .i64 0, .slice none 0 0] 66) = v0 at *
  have HAT := Lib.hid HB.out.at_
  have HN := Lib.hid (must_any HAT.out.pr sCurl (by decide))
  go_wp2_with fail
  refine HN.out.mono ?_
  rintro e u1 ⟨hC, _, _, l1, b1, rfl, rfl, hP, hrel⟩
  replace HT := Lib.hid (now_bind HT.out HNE.out hrel)
  replace HBD := Lib.hid (rel_bad (b0 := b0) hrel (by first | exact HBD.out | exact fun _ => rfl | (intro e; have := HBD.out; simp_all)))
  replace HB := Lib.hid (HB.out.call hC hP)
  replace HAT := Lib.hid HB.out.at_
  clear hC hP hrel HN
  have hL0 := HAT.out.pr.len
  go_wp2_with fail
  go_loopg [] n (fun kk wr => ∃ (l2 : List Tk) (b2 : Bool) (acc : List Nd) (row : Value), kk ≤ n ∧ Hid (b0 = true → b2 = true) ∧ Hid (stO b2 l2 (prs kk (.stats acc) l2) = T) ∧ Hid (RBld W w wr S A N l2 b2 6 ⟨#[]⟩ 0 row row acc) ∧ Hid (b2 = false → acc.length + l2.length ≤ 10000))
  case atStart => exact ⟨l1, b1, [], .slice none 0 0, Nat.le_refl _, HBD, HT, HB, Lib.hid (fun _ => by simpa using hL0)⟩
  clear HT HB HAT HBD hL0
  case round =>
    obtain ⟨lr, br, acc, row, hkn, HBD, HT, HB, HLE⟩ := hrel
    have HAT := Lib.hid HB.out.at_
    obtain ⟨ra_, rn_, rc_, rk_, hbk, -, -⟩ := rdr_blk HAT.out.pr
    have c2 := hbk.cell 2
    simp at c2
    clear hbk
    cases br with
    | false =>
      cases gk with
      | zero => exact absurd HT.out.symm HNE.out
      | succ m =>
        have HT0 := HT.out
        clear HT
        simp only [prs] at HT0
        have HT := Lib.hid HT0
        clear HT0
        have HN := Lib.hid (eat_any HAT.out.pr sLruc (by decide))
        have HY := Lib.hid (fun he => now_eat2 HT.out he)
        have HO := Lib.hid (fun he => now_not HT.out he)
        clear HT
        generalize (!false && isB lr [sLruc]) = R at *
        go_wp2_with fail
        refine HN.out.mono ?_
        rintro e u2 ⟨rfl, hC, hP⟩
        cases R with
        | false =>
          replace hP : RdrAt W u2 S lr false := by simpa using hP
          have HT := Lib.hid (HO.out (by trivial))
          replace HB := Lib.hid (HB.out.call hC hP)
          replace HAT := Lib.hid HB.out.at_
          clear hC hP HN HY HO
          have HNX := Lib.hid (fun e => now_ne HT.out HNE.out e : prs m .stat lr ≠ .out)
          obtain ⟨B, hB⟩ : ∃ B, u2.heap.size = B := ⟨_, rfl⟩
          have hNB := HB.out.lt
          have HOW := Lib.hid HB.out.own
          rw [hB] at hNB HOW
          have HN := Lib.hid ((dG m (by omega)) _ _ HAT.out.pr (by first | exact HBD.out | exact fun _ => rfl | (intro e; have := HBD.out; simp_all)) (fun _ => rfl) rfl trivial (now_ne HT.out HNE.out))
          go_wp2_with fail
          refine HN.out.mono ?_
          rintro e u3 ⟨hC, x3, v3, l3, b3, rfl, hv, hP, hrel⟩
          have HLT := Lib.hid (fun e => rel_lt hrel HNX.out e)
          replace HT := Lib.hid (now_bind HT.out HNE.out hrel)
          replace HBD := Lib.hid (rel_bad (b0 := b0) hrel (by first | exact HBD.out | exact fun _ => rfl | (intro e; have := HBD.out; simp_all)))
          replace HB := Lib.hid (HB.out.call hC hP)
          replace HAT := Lib.hid HB.out.at_
          obtain ⟨ka3, ta3, ma3, aa3, na3, ca3, rfl⟩ := nd_form hv
          have HV3 := Lib.hid hv
          have hsz3 : u2.heap.size ≤ u3.heap.size := hC.size
          clear hC hP hrel hv HN
          rw [hB] at HV3 hsz3
          have HK := Lib.hid (Kid.start HV3.out hSN hNB (fun i e => (HOW.out i e).2) hsz3 (c := #[.int .i64 ka3, .string ta3, .int .i64 ma3, .slice aa3 na3 ca3]) rfl)
          have hEx := (Chg.refl (fun _ => False) u3).alloc (.cells #[.int .i64 ka3, .string ta3, .int .i64 ma3, .slice aa3 na3 ca3] 66)
          replace HB := Lib.hid (HB.out.extend hEx)
          replace HAT := Lib.hid HB.out.at_
          clear hEx HOW
          obtain ⟨XHK, hXHK⟩ : ∃ X, u3.heap.size = X := ⟨_, rfl⟩
          rw [hXHK] at HK
          go_upto_region 5 with (fail)
          generalize u3.alloc (.cells #[.int .i64 ka3, .string ta3, .int .i64 ma3, .slice aa3 na3 ca3] 66) = u9 at *
          clear hB hNB hsz3 HV3
          have hle := HLE.out (by trivial)
          clear HAT
          obtain ⟨ra, rc, hrow⟩ := HB.out.slice3
          first | subst hrow | (injection hrow; subst_vars)
          obtain ⟨us, hu1, ho, hu3⟩ := HB.out.grow.ex
          have HO := Lib.hid ho
          have HU := Lib.hid (And.intro hu1 hu3)
          have HOW := Lib.hid HB.out.own
          clear ho hu1 hu3
          have n0 := HB.out.nd.cell
          have nf := HB.out.nd.frozen
          have nl := HB.out.lt
          have kc := HK.out.nd.cell
          simp only [Value.cells] at kc
          obtain ⟨i0_, hi, hz0, hz1, hz2⟩ := info_split info_node
          go_wp2_with (at_builtin; refine wpList_append_lies _ rfl _ _ 35 rfl (N + 1) 66 i0_ (.agg #[.int .i64 0, .string ⟨#[]⟩, .int .i64 0, .slice none 0 0]) 4 56 Tryz.underlying35 hi hz0 hz1 hz2 rfl (by decide) (.slice ra acc.length rc) acc.length (us.flatMap fun u => u.cells.toList) rfl (HO.out.alloc _) ⟨u9.heap.size, 0, none⟩ 1 1 [.int .i64 ka3, .string ta3, .int .i64 ma3, .slice aa3 na3 ca3] rfl rfl (by intro j q hj; have e : (⟨u9.heap.size, 0, none⟩ : Addr).add j = ⟨u9.heap.size, j, none⟩ := (by unfold Addr.add; split <;> simp_all); rw [e, (Blk.made u9 _ _).cell]; simpa using hj) (by intro q hq; simp at hq; rcases hq with rfl | rfl | rfl | rfl <;> rfl) (by decide) (by unfold maxLen; omega) (by omega) (by simp; omega) (u9.heap.size + 1) (by simp) ?_; intro g c' w4 hown hgrow hat hlt1; have HPU := Lib.hid (pushed HU.out.1 HU.out.2 HK.out.dat hown hgrow hat); have HBN := Lib.hid (grown_blk hgrow (HB.out.nd.alloc _) (fun e => by have := (HOW.out N e).1; omega)); have q1 := HBN.out.cell; have q1f := HBN.out.frozen; have q1l := HBN.out.lt; clear hown hgrow hat n0 nf nl kc HBN)
          obtain ⟨hG, hC, -⟩ := HPU.out
          replace HB := Lib.hid (HB.out.more hG hC).put3
          clear hG hC HPU q1 q1f q1l
          go_roundg m
          case rel => exact ⟨l3, b3, (acc ++ [x3]), _, by omega, HBD, HT, HB, Lib.hid (fun e => by have := HLT.out e; simp only [NT.weak, List.length_append, List.length_singleton] at this ⊢; omega)⟩
          case measure => omega
        | true =>
          obtain ⟨hbf, HT0⟩ := HY.out (by trivial)
          first | subst hbf | clear hbf
          replace hP : RdrAt W u2 S lr.tail false := by simpa using hP
          have HT := Lib.hid (HT0 lr.tail)
          replace HB := Lib.hid (HB.out.call hC hP)
          replace HAT := Lib.hid HB.out.at_
          clear hC hP HN HY HO HT0
          obtain ⟨ra, rc, hrow⟩ := HB.out.slice3
          first | subst hrow | clear hrow
          have n0 := HB.out.nd.cell
          have r0 := HB.out.at_.res.cell
          have rf := HB.out.at_.res.frozen
          have rl := HB.out.at_.res.lt
          unfold zeroNd at r0
          go_wp2_with fail
          refine ends_at rfl rfl rfl ((((HB.out.at_.res.set 0 _).set 1 _).set 2 _).set 3 _) Tryz.underlying66 rfl (by kernel_rfl) ?_
          first | exact HB.out.ret (by decide) HT.out | (subst hA; exact HB.out.ret (by decide) HT.out)
    | true =>
      replace HT := Lib.hid (bad_any (q := .got (.mk 6 noText 0 acc) lr) HT.out)
      obtain ⟨ra, rc, hrow⟩ := HB.out.slice3
      first | subst hrow | clear hrow
      have n0 := HB.out.nd.cell
      have r0 := HB.out.at_.res.cell
      have rf := HB.out.at_.res.frozen
      have rl := HB.out.at_.res.lt
      unfold zeroNd at r0
      go_wp2_with fail
      refine ends_at rfl rfl rfl ((((HB.out.at_.res.set 0 _).set 1 _).set 2 _).set 3 _) Tryz.underlying66 rfl (by kernel_rfl) ?_
      first | exact HB.out.ret (by decide) HT.out | (subst hA; exact HB.out.ret (by decide) HT.out)
end synr
end Go.Proofs.YtpcihajmcejliabGreatDoor
