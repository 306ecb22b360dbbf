/- Nodes and tokens in plain Lean, how they lie in memory, and what the parser comes to. The parser in plain Lean: what is read makes the rest shorter. The walk of the program's parser: peek, fail, is, have, need, name, whole, label, node, number. The walks of syntax.IsName and of the reference's Name. -/
import Derived.Test.YtpcihajmcejliacGreatDoorProg
import Derived.WalkKit
import Derived.WalkSpells
import Derived.Deep.RegionHeld3
import Derived.BigQuiet
import Derived.Deep.QuietTactic
import Derived.StillTailTactics
import Derived.Deep.CutBlock
import Derived.Deep.DeepCutAuto
import Derived.Test.YtpcihajmcejliacGreatDoorLexNum
import Derived.Test.YtpcihajmcejliacGreatDoorNameMath
namespace Go.Proofs.YtpcihajmcejliacGreatDoor
open Go.RowKit
inductive Nd where
 | mk (kind : Int) (text : ByteArray) (num : Int) (kids : List Nd)
def Nd.kids : Nd → List Nd
 | .mk _ _ _ l => l
theorem Nd.sizeOf_kid (k : Int) (t : ByteArray) (m : Int) (l : List Nd) (j : Nat) (h : j < l.length) : SizeOf.sizeOf l[j] < SizeOf.sizeOf (Nd.mk k t m l) := by
 have h1 := List.sizeOf_lt_of_mem (List.getElem_mem h); have h2 : SizeOf.sizeOf (Nd.mk k t m l) = 1 + SizeOf.sizeOf k + SizeOf.sizeOf t + SizeOf.sizeOf m + SizeOf.sizeOf l := by simp
 omega
theorem nd_ind {P : Nd → Prop} (h : ∀ k t m l, (∀ x ∈ l, P x) → P (.mk k t m l)) : ∀ x, P x := by
 have : ∀ n x, SizeOf.sizeOf x ≤ n → P x := by
  intro n; induction n with
  | zero =>
   intro x hx; cases x; simp at hx
  | succ n ih =>
   intro x hx; cases x with
   | mk k t m l =>
    refine h k t m l fun y hy => ih y ?_
    obtain ⟨j, hj, rfl⟩ := List.getElem_of_mem hy; have := Nd.sizeOf_kid k t m l j hj; omega
 exact fun x => this _ x (Nat.le_refl _)
def NdAt (w : World) : Nd → Value → Prop
 | .mk k t m l, v => ∃ a c, v = .agg #[.int .i64 k, .string t, .int .i64 m, .slice a l.length c] ∧ l.length ≤ c ∧ c ≤ maxLen ∧ t.size ≤ 10000 ∧
   ∀ (j : Nat) (h : j < l.length), ∃ b o, a = some ⟨b, o, none⟩ ∧ b < w.heap.size ∧ ∃ u, NdAt w l[j] u ∧ u.cells.size = 4 ∧ ∀ i, i < 4 → w.cell? ⟨b, o + j * 4 + i, none⟩ = u.cells[i]?
 termination_by x => SizeOf.sizeOf x
 decreasing_by exact Nd.sizeOf_kid k t m l j h
def NdIn (w : World) (b o : Nat) (x : Nd) : Prop := ∃ u, NdAt w x u ∧ u.cells.size = 4 ∧ ∀ i, i < 4 → w.cell? ⟨b, o + i, none⟩ = u.cells[i]?
theorem ndAt_mk (w : World) (k : Int) (t : ByteArray) (m : Int) (l : List Nd) (v : Value) : NdAt w (.mk k t m l) v ↔ ∃ a c, v = .agg #[.int .i64 k, .string t, .int .i64 m, .slice a l.length c] ∧ l.length ≤ c ∧ c ≤ maxLen ∧ t.size ≤ 10000 ∧ AllIn 4 NdIn w a l := by
 rw [NdAt]; exact Iff.rfl
theorem ndAt_keeps {w w' : World} (hk : Keeps w w') : ∀ x v, NdAt w x v → NdAt w' x v := by
 refine nd_ind fun k t m l ih v h => ?_
 rw [ndAt_mk] at h ⊢; obtain ⟨a, c, e, h1, h2, h3, h4⟩ := h; refine ⟨a, c, e, h1, h2, h3, fun j hj => ?_⟩
 obtain ⟨b, o, ea, hb, u, hu, hs, hc⟩ := h4 j hj; refine ⟨b, o, ea, Nat.lt_of_lt_of_le hb hk.1, u, ih _ (List.getElem_mem hj) _ hu, hs, fun i hi => ?_⟩
 have h5 : u.cells[i]? = some (u.cells[i]'(by omega)) := Array.getElem?_eq_getElem (by omega); rw [h5]; exact hk.2 _ _ ((hc i hi).trans h5)
def VNd (x : Nd) (v : Value) (w : World) : Prop := NdAt w x v
theorem vnd_keeps (x : Nd) (u : Value) (w w' : World) (hk : Keeps w w') (h : VNd x u w) : VNd x u w' := ndAt_keeps hk x u h
theorem nd_cells {w : World} {x : Nd} {v : Value} (h : NdAt w x v) : ∃ a b c d, v = .agg #[a, b, c, d] ∧ v.cells = #[a, b, c, d] ∧ a.oneCell' = true ∧ b.oneCell' = true ∧ c.oneCell' = true ∧ d.oneCell' = true := by
 cases x with
 | mk k t m l =>
  rw [ndAt_mk] at h; obtain ⟨a, c, rfl, -⟩ := h; exact ⟨_, _, _, _, rfl, rfl, rfl, rfl, rfl, rfl⟩
theorem nd_size {w : World} {x : Nd} {v : Value} (h : NdAt w x v) : v.cells.size = 4 := by
 obtain ⟨a, b, c, d, -, e, -⟩ := nd_cells h; rw [e]; rfl
theorem nd_lies (w : World) (b o : Nat) (x : Nd) (u : Value) (h : VNd x u w) (hs : u.cells.size = 4) (hc : ∀ i, i < 4 → w.cell? ⟨b, o + i, none⟩ = u.cells[i]?) : NdIn w b o x := ⟨u, h, hs, hc⟩
theorem ndIn_keeps {w w' : World} (hk : Keeps w w') (b o : Nat) (x : Nd) (h : NdIn w b o x) : NdIn w' b o x := by
 obtain ⟨u, hu, hs, hc⟩ := h; refine ⟨u, ndAt_keeps hk _ _ hu, hs, fun i hi => ?_⟩
 have h5 : u.cells[i]? = some (u.cells[i]'(by omega)) := Array.getElem?_eq_getElem (by omega); rw [h5]; exact hk.2 _ _ ((hc i hi).trans h5)
theorem ndAt_chg {w w' : World} {B : Nat} {x : Nd} {v : Value} (h : NdAt (hide (below B) w) x v) {S : Nat → Prop} (hC : Chg S w w') (hS : ∀ i, S i → i < B) : NdAt (hide (below B) w') x v :=
 ndAt_keeps (keeps_chg hC fun i _ hs => by simp [below, hS i hs]) _ _ h
theorem ndAt_low {w : World} {B B2 : Nat} {x : Nd} {v : Value} (h : NdAt (hide (below B) w) x v) (hB : B2 ≤ B) : NdAt (hide (below B2) w) x v :=
 ndAt_keeps (keeps_hide (Nat.le_refl _) fun i hi hm => by
  simp only [below, decide_eq_false_iff_not] at hm ⊢; exact ⟨by omega, trivial⟩) _ _ h
theorem ndAt_grow {w : World} {B : Nat} {k m : Int} {t : ByteArray} {v : Value} {l : List Nd} (h : Grow 4 24 VNd B w v l) (ht : t.size ≤ 10000) : NdAt (hide (below B) w) (.mk k t m l) (.agg #[.int .i64 k, .string t, .int .i64 m, v]) := by
 obtain ⟨a, c, rfl, h1, h2, h3⟩ := h.row (In := NdIn) vnd_keeps nd_lies; rw [ndAt_mk]; exact ⟨a, c, rfl, h1, h2, ht, h3⟩
theorem ndAt_leaf (w : World) (k m : Int) (t : ByteArray) (ht : t.size ≤ 10000) : NdAt w (.mk k t m []) (.agg #[.int .i64 k, .string t, .int .i64 m, .slice none 0 0]) := by
 rw [ndAt_mk]; exact ⟨none, 0, rfl, Nat.le_refl _, by decide, ht, fun j h => by cases h⟩
structure Tk where
 kind : Int
 text : ByteArray
 at_ : Int
structure TkOk (t : Tk) : Prop where
 kinds : 1 ≤ t.kind ∧ t.kind ≤ 3
 size : t.text.size ≤ 3000
 word : t.kind = 1 → wordB t.text.data.toList = true
 num : t.kind = 2 → digs t.text.data.toList = true ∧ t.text.data.toList ≠ [] ∧ decFrom 0 t.text.data.toList < 9223372036854775808
 sign : t.kind = 3 → wordB t.text.data.toList = false
structure TkIn (w : World) (b o : Nat) (t : Tk) : Prop where
 c0 : w.cell? ⟨b, o, none⟩ = some (.int .i64 t.kind)
 c1 : w.cell? ⟨b, o + 1, none⟩ = some (.string t.text)
 c2 : w.cell? ⟨b, o + 2, none⟩ = some (.int .i64 t.at_)
 ok : TkOk t
def TksIn (w : World) (a : Option Addr) (k : Nat) (l : List Tk) : Prop := ∀ (j : Nat) (h : j < l.length), ∃ b o, a = some ⟨b, o, none⟩ ∧ b < w.heap.size ∧ TkIn w b (o + (k + j) * 3) l[j]
theorem TksIn.tail {w : World} {a : Option Addr} {k : Nat} {t : Tk} {r : List Tk} (h : TksIn w a k (t :: r)) : TksIn w a (k + 1) r := fun j hj => by
 have := h (j + 1) (by simpa using hj); rw [show k + 1 + j = k + (j + 1) by omega]; exact this
structure PrAt (W w : World) (S E : Nat) (l : List Tk) : Prop where
 ex : ∃ a n c k, Blk w S #[.slice a n c, .int .i64 (k : Nat), .int .i64 (E : Nat)] 108 ∧ k + l.length = n ∧ n ≤ 10000 ∧ TksIn W a k l
 ext : Ext W w
 hS : W.heap.size ≤ S
theorem PrAt.chg {W w w' : World} {S E : Nat} {l : List Tk} (h : PrAt W w S E l) {M : Nat → Prop} (hE : Chg M w w') (hn : ¬ M S) (hM : ∀ i, M i → W.heap.size ≤ i) : PrAt W w' S E l := by
 obtain ⟨a, n, c, k, hb, h1, h2, h3⟩ := h.ex; exact ⟨⟨a, n, c, k, hb.chg hE hn, h1, h2, h3⟩, h.ext.trans hE (fun i hi hm => by have := hM i hm; omega), h.hS⟩
theorem PrAt.extend {W w w' : World} {S E : Nat} {l : List Tk} (h : PrAt W w S E l) (hE : Ext w w') : PrAt W w' S E l := h.chg hE id fun _ h => h.elim
theorem PrAt.alloc {W w : World} {S E : Nat} {l : List Tk} (h : PrAt W w S E l) (o : Obj) : PrAt W (w.alloc o) S E l := h.extend ((Chg.refl _ _).alloc o)
theorem PrAt.lt {W w : World} {S E : Nat} {l : List Tk} (h : PrAt W w S E l) : S < w.heap.size := by obtain ⟨a, n, c, k, hb, -⟩ := h.ex; exact hb.lt
theorem PrAt.setFar {W w : World} {S E : Nat} {l : List Tk} (h : PrAt W w S E l) {p : Addr} (hp : p.block ≠ S) (hW : W.heap.size ≤ p.block) (u : Value) : PrAt W (w.setCell p u) S E l :=
 h.chg ((Chg.refl (fun i => i = p.block) w).setCell (fun _ => rfl) _) (fun e => hp e.symm) (fun i hi => by omega)
inductive Out (α : Type) where
 | out
 | bad (l : List Tk)
 | got (x : α) (l : List Tk)
def Out.bind {α β : Type} (o : Out α) (f : α → List Tk → Out β) : Out β := match o with
 | .out => .out
 | .bad l => .bad l
 | .got x l => f x l
theorem Out.bind_ne {α β : Type} {o : Out α} {f : α → List Tk → Out β} {T : Out β} (h : o.bind f = T) (hT : T ≠ .out) : o ≠ .out := by
 rintro rfl; exact hT h.symm
theorem Out.bind_bad {α β : Type} {o : Out α} {f : α → List Tk → Out β} {T : Out β} {l : List Tk} (h : o.bind f = T) (ho : o = .bad l) : T = .bad l := by
 subst ho; exact h.symm
theorem Out.bind_got {α β : Type} {o : Out α} {f : α → List Tk → Out β} {T : Out β} {x : α} {l : List Tk} (h : o.bind f = T) (ho : o = .got x l) : f x l = T := by
 subst ho; exact h
def posOf (E : Nat) : List Tk → Int
 | [] => E
 | t :: _ => t.at_
def kindOf : List Tk → Int
 | [] => 0
 | t :: _ => t.kind
def textOf : List Tk → ByteArray
 | [] => ⟨#[]⟩
 | t :: _ => t.text
def isB (l : List Tk) (ws : List ByteArray) : Bool := match l with
 | [] => false
 | t :: _ => decide (t.kind ≠ 2) && (ws.any fun s => decide (t.text = s))
def sDot : ByteArray := ⟨#[46]⟩
def sSemi : ByteArray := ⟨#[59]⟩
def sComma : ByteArray := ⟨#[44]⟩
def sEq : ByteArray := ⟨#[61]⟩
def sOpen : ByteArray := ⟨#[40]⟩
def sClose : ByteArray := ⟨#[41]⟩
def sBra : ByteArray := ⟨#[91]⟩
def sKet : ByteArray := ⟨#[93]⟩
def sCurl : ByteArray := ⟨#[123]⟩
def sLruc : ByteArray := ⟨#[125]⟩
def sMinus : ByteArray := ⟨#[45]⟩
def sNot : ByteArray := ⟨#[33]⟩
def sHigh : ByteArray := ⟨#[104, 105, 103, 104]⟩
def sLow : ByteArray := ⟨#[108, 111, 119]⟩
def sDo : ByteArray := ⟨#[100, 111]⟩
def sIf : ByteArray := ⟨#[105, 102]⟩
def sElse : ByteArray := ⟨#[101, 108, 115, 101]⟩
def sWhile : ByteArray := ⟨#[119, 104, 105, 108, 101]⟩
def sOut : ByteArray := ⟨#[111, 117, 116]⟩
def sIn : ByteArray := ⟨#[105, 110]⟩
def sReturn : ByteArray := ⟨#[114, 101, 116, 117, 114, 110]⟩
def sModule : ByteArray := ⟨#[109, 111, 100, 117, 108, 101]⟩
def sImport : ByteArray := ⟨#[105, 109, 112, 111, 114, 116]⟩
def sPub : ByteArray := ⟨#[112, 117, 98]⟩
def sProc : ByteArray := ⟨#[112, 114, 111, 99]⟩
def sGives : ByteArray := ⟨#[103, 105, 118, 101, 115]⟩
def noText : ByteArray := ⟨#[]⟩
def pNeed (s : ByteArray) (l : List Tk) : Out Unit := if isB l [s] = true then .got () l.tail else .bad l
def pName : List Tk → Out ByteArray
 | [] => .bad []
 | t :: r => if t.kind = 1 ∧ reservedL.contains t.text.data.toList = false then .got t.text r else .bad (t :: r)
def pWhole (l : List Tk) : Out ByteArray := (pName l).bind fun s l => if isB l [sDot] = true then (pName l.tail).bind fun t l => .got (s ++ (sDot ++ t)) l else .got s l
def pLabel (l : List Tk) : Out Int := if isB l [sHigh] = true then .got 1 l.tail else (pNeed sLow l).bind fun _ l => .got 0 l
def valOf (s : ByteArray) : Int := (decFrom 0 s.data.toList : Nat)
def pNumber : List Tk → Out Nd
 | [] => .bad []
 | t :: r => if t.kind = 2 then .got (.mk 15 noText (valOf t.text) []) r else .bad (t :: r)
def opOf (s : ByteArray) : Int × Int :=
 if s = ⟨#[61, 61]⟩ then (9, 0) else if s = ⟨#[60]⟩ then (8, 0) else if s = ⟨#[43]⟩ then (1, 1) else if s = ⟨#[45]⟩ then (2, 1) else if s = ⟨#[124]⟩ then (7, 1)
 else if s = ⟨#[42]⟩ then (3, 2) else if s = ⟨#[47]⟩ then (4, 2) else if s = ⟨#[37]⟩ then (5, 2) else if s = ⟨#[38]⟩ then (6, 2) else (0, -1)
inductive NT where
 | expr | bound (k : Nat) | loop (k : Nat) (x : Nd) | unary | asked | place (s : ByteArray) | call (s : ByteArray) | args (s : ByteArray) (acc : List Nd)
 | block | stats (acc : List Nd) | stat | decl | proc (pub : Int) | params (s : ByteArray) (pub : Int) (acc : List Nd) | module | imports (s : ByteArray) (acc : List Nd) | decls (s : ByteArray) (acc : List Nd)
def semi (x : Nd) (l : List Tk) : Out Nd := (pNeed sSemi l).bind fun _ l => .got x l
def prs : Nat → NT → List Tk → Out Nd
 | 0, _, _ => .out
 | n + 1, .expr, l => prs n (.bound 0) l
 | n + 1, .bound k, l => if 2 < k then prs n .unary l else (prs n (.bound (k + 1)) l).bind fun x l => prs n (.loop k x) l
 | n + 1, .loop k x, l => if kindOf l = 3 ∧ (opOf (textOf l)).2 = k then
       (prs n (.bound (k + 1)) l.tail).bind fun y r => if k = 0 then .got (.mk 19 noText (opOf (textOf l)).1 [x, y]) r else prs n (.loop k (.mk 19 noText (opOf (textOf l)).1 [x, y])) r
   else .got x l
 | n + 1, .unary, l =>
   if isB l [sMinus] = true then (prs n .unary l.tail).bind fun x r => .got (.mk 20 noText 0 [x]) r
   else if isB l [sNot] = true then (prs n .unary l.tail).bind fun x r => .got (.mk 21 noText 0 [x]) r
   else if isB l [sOpen] = true then prs n .asked l
   else if kindOf l = 2 then pNumber l
   else (pWhole l).bind fun s l => if isB l [sOpen] = true then prs n (.call s) l else prs n (.place s) l
 | n + 1, .asked, l => (pNeed sOpen l).bind fun _ l => (prs n .expr l).bind fun x l => (pNeed sClose l).bind fun _ l => .got x l
 | n + 1, .place s, l => if isB l [sBra] = true then (prs n .expr l.tail).bind fun x l => (pNeed sKet l).bind fun _ l => .got (.mk 17 s 0 [x]) l else .got (.mk 16 s 0 []) l
 | n + 1, .call s, l => (pNeed sOpen l).bind fun _ l => prs n (.args s []) l
 | n + 1, .args s acc, l =>
   if isB l [sClose] = true ∧ acc.length = 0 then (pNeed sClose l).bind fun _ l => .got (.mk 18 s 0 acc) l
   else (prs n .expr l).bind fun x l => if isB l [sComma] = true then prs n (.args s (acc ++ [x])) l.tail else (pNeed sClose l).bind fun _ l => .got (.mk 18 s 0 (acc ++ [x])) l
 | n + 1, .block, l => (pNeed sCurl l).bind fun _ l => prs n (.stats []) l
 | n + 1, .stats acc, l => if isB l [sLruc] = true then .got (.mk 6 noText 0 acc) l.tail else (prs n .stat l).bind fun x l => prs n (.stats (acc ++ [x])) l
 | n + 1, .stat, l =>
   if isB l [sLow, sHigh] = true then (pLabel l).bind fun b l => (pName l).bind fun s l => (pNeed sEq l).bind fun _ l => (prs n .expr l).bind fun x l => semi (.mk 7 s b [x]) l
   else if isB l [sDo] = true then (pWhole l.tail).bind fun s l => (prs n (.call s) l).bind fun x l => semi (.mk 9 noText 0 [x]) l
   else if isB l [sIf] = true then (prs n .asked l.tail).bind fun x l => (prs n .block l).bind fun b l =>
    if isB l [sElse] = true then (prs n .block l.tail).bind fun c l => .got (.mk 10 noText 0 [x, b, c]) l else .got (.mk 10 noText 0 [x, b]) l
   else if isB l [sWhile] = true then (prs n .asked l.tail).bind fun x l => (prs n .block l).bind fun b l => .got (.mk 11 noText 0 [x, b]) l
   else if isB l [sOut] = true then (pLabel l.tail).bind fun b l => (prs n .expr l).bind fun x l => semi (.mk 12 noText b [x]) l
   else if isB l [sIn] = true then (pLabel l.tail).bind fun b l => (pWhole l).bind fun s l => (prs n (.place s) l).bind fun x l => semi (.mk 13 noText b [x]) l
   else if isB l [sReturn] = true then (prs n .expr l.tail).bind fun x l => semi (.mk 14 noText 0 [x]) l
   else (pWhole l).bind fun s l => (prs n (.place s) l).bind fun x l => (pNeed sEq l).bind fun _ l => (prs n .expr l).bind fun y l => semi (.mk 8 noText 0 [x, y]) l
 | n + 1, .decl, l =>
   let pub : Int := if isB l [sPub] = true then 2 else 0
   let l := if isB l [sPub] = true then l.tail else l
   if isB l [sProc] = true then prs n (.proc pub) l.tail
   else (pLabel l).bind fun b l => (pName l).bind fun s l =>
    if isB l [sBra] = true then (pNumber l.tail).bind fun x l => (pNeed sKet l).bind fun _ l => semi (.mk 3 s (b + pub) [x]) l else semi (.mk 3 s (b + pub) []) l
 | n + 1, .proc pub, l => (pName l).bind fun s l => (pNeed sOpen l).bind fun _ l => prs n (.params s pub []) l
 | n + 1, .params s pub acc, l =>
   let done : List Nd → List Tk → Out Nd := fun acc l => (pNeed sClose l).bind fun _ l => (pLabel l).bind fun b l =>
    if isB l [sGives] = true then (pLabel l.tail).bind fun g l => (prs n .block l).bind fun x l => .got (.mk 4 s (pub + b + (4 + 4 * g)) (acc ++ [x])) l
    else (prs n .block l).bind fun x l => .got (.mk 4 s (pub + b) (acc ++ [x])) l
   if isB l [sClose] = true ∧ acc.length = 0 then done acc l
   else (pLabel l).bind fun b l => (pName l).bind fun p l => if isB l [sComma] = true then prs n (.params s pub (acc ++ [.mk 5 p b []])) l.tail else done (acc ++ [.mk 5 p b []]) l
 | n + 1, .module, l => (pNeed sModule l).bind fun _ l => (pName l).bind fun s l => (pNeed sSemi l).bind fun _ l => prs n (.imports s []) l
 | n + 1, .imports s acc, l =>
   if isB l [sImport] = true then (pName l.tail).bind fun p l => (pNeed sSemi l).bind fun _ l => prs n (.imports s (acc ++ [.mk 2 p 0 []])) l
   else prs n (.decls s acc) l
 | n + 1, .decls s acc, l => if l.length = 0 then .got (.mk 1 s 0 acc) l else (prs n .decl l).bind fun x l => prs n (.decls s (acc ++ [x])) l
namespace synw
def badV (p : Int) : List PanicEntry := [{ v := .iface 105 (.agg #[.int .i64 p]), recovered := false }]
def Pst {α : Type} (V : α → Value → World → Prop) (W w : World) (S E : Nat) (T : Out α) (e : Ending) (w' : World) : Prop :=
 Chg (fun i => i = S) w w' ∧ match T with
  | .out => True
  | .bad l => e = .panicked (badV (posOf E l))
  | .got x l => ∃ v, e = .returned v ∧ V x v w' ∧ PrAt W w' S E l
theorem Pst.cases {α : Type} {V : α → Value → World → Prop} {W w : World} {S E : Nat} {T : Out α} {e : Ending} {w' : World} (h : Pst V W w S E T e w') (hT : T ≠ .out) :
  Chg (fun i => i = S) w w' ∧ ((∃ l, T = .bad l ∧ e = .panicked (badV (posOf E l))) ∨ ∃ x l v, T = .got x l ∧ e = .returned v ∧ V x v w' ∧ PrAt W w' S E l) := by
 obtain ⟨h1, h2⟩ := h; refine ⟨h1, ?_⟩
 cases T with
 | out => exact (hT rfl).elim
 | bad l => exact .inl ⟨l, rfl, h2⟩
 | got x l => obtain ⟨v, h3⟩ := h2; exact .inr ⟨x, l, v, rfl, h3⟩
theorem Pst.fails {α : Type} {V : α → Value → World → Prop} {W w : World} {S E : Nat} {w' : World} (h : Chg (fun i => i = S) w w') {T : Out α} {l : List Tk} (hr : T = .bad l) : Pst V W w S E T (.panicked (badV (posOf E l))) w' := by
 subst hr; exact ⟨h, rfl⟩
theorem Pst.reads {α : Type} {V : α → Value → World → Prop} {W w : World} {S E : Nat} {w' : World} (h : Chg (fun i => i = S) w w') {T : Out α} {x : α} {l : List Tk} (hr : T = .got x l) {v : Value} (hV : V x v w') (hR : PrAt W w' S E l) : Pst V W w S E T (.returned v) w' := by
 subst hr; exact ⟨h, v, rfl, hV, hR⟩
def VStr (s : ByteArray) (v : Value) (_ : World) : Prop := v = .string s ∧ s.size ≤ 7000
def VLab (b : Int) (v : Value) (_ : World) : Prop := v = .int .i64 b ∧ 0 ≤ b ∧ b ≤ 1
def VUnit (_ : Unit) (v : Value) (_ : World) : Prop := v = .tuple #[]
end synw
end Go.Proofs.YtpcihajmcejliacGreatDoor
namespace Go.Proofs.YtpcihajmcejliacGreatDoor
open Go.RowKit
def NT.weak : NT → Nat
 | .loop _ _ => 0
 | .imports _ _ => 0
 | .decls _ _ => 0
 | .place _ => 0
 | _ => 1
namespace synm
theorem got_bind {α β : Type} {o : Out α} {f : α → List Tk → Out β} {x : β} {r : List Tk} (h : o.bind f = .got x r) : ∃ y l, o = .got y l ∧ f y l = .got x r := by
 cases o with
 | out => cases h
 | bad l => cases h
 | got y l => exact ⟨y, l, rfl, h⟩
theorem tail_lt {l : List Tk} {ws : List ByteArray} (h : isB l ws = true) : l.tail.length < l.length := by
 cases l with
 | nil => cases h
 | cons t r => simp
theorem need_lt {s : ByteArray} {l r : List Tk} {u : Unit} (h : pNeed s l = .got u r) : r.length < l.length := by
 unfold pNeed at h; split at h
 ·rename_i h1
  injection h with _ h2
  subst h2; exact tail_lt h1
 ·cases h
theorem name_lt {l r : List Tk} {s : ByteArray} (h : pName l = .got s r) : r.length < l.length := by
 cases l with
 | nil => cases h
 | cons t q =>
  simp only [pName] at h; split at h
  ·injection h with _ h2
   subst h2; simp
  ·cases h
theorem number_lt {l r : List Tk} {x : Nd} (h : pNumber l = .got x r) : r.length < l.length := by
 cases l with
 | nil => cases h
 | cons t q =>
  simp only [pNumber] at h; split at h
  ·injection h with _ h2
   subst h2; simp
  ·cases h
theorem whole_lt {l r : List Tk} {s : ByteArray} (h : pWhole l = .got s r) : r.length < l.length := by
 unfold pWhole at h; obtain ⟨y, q, h1, h2⟩ := got_bind h; have := name_lt h1; split at h2
 ·rename_i hb
  obtain ⟨z, q2, h3, h4⟩ := got_bind h2; have := name_lt h3; have := tail_lt hb; injection h4 with _ h5
  subst h5; omega
 ·injection h2 with _ h5
  subst h5; omega
theorem label_lt {l r : List Tk} {b : Int} (h : pLabel l = .got b r) : r.length < l.length := by
 unfold pLabel at h; split at h
 ·rename_i hb
  injection h with _ h5
  subst h5; exact tail_lt hb
 ·obtain ⟨z, q2, h3, h4⟩ := got_bind h
  have := need_lt h3; injection h4 with _ h5
  subst h5; omega
theorem semi_lt {l r : List Tk} {x y : Nd} (h : semi x l = .got y r) : r.length < l.length := by
 unfold semi at h; obtain ⟨z, q2, h3, h4⟩ := got_bind h; have := need_lt h3; injection h4 with _ h5
 subst h5; omega
theorem got_len {x y : Nd} {l r : List Tk} (h : Out.got x l = Out.got y r) : r.length = l.length := by injection h with _ h; rw [h]
theorem head_lt {l : List Tk} (h : kindOf l = 3) : l.tail.length < l.length := by
 cases l with
 | nil => simp [kindOf] at h
 | cons t r => simp
theorem prs_lt : ∀ (n : Nat) (X : NT) (l : List Tk) (x : Nd) (r : List Tk), prs n X l = .got x r → r.length + X.weak ≤ l.length := by
 intro n; induction n with
 | zero => intro X l x r h; cases X <;> cases h
 | succ n ih =>
  intro X l x r h; cases X with
  | expr =>
   simp only [prs] at h; have := ih _ _ _ _ h; exact this
  | bound k =>
   simp only [prs] at h; split at h
   ·have := ih _ _ _ _ h
    exact this
   ·obtain ⟨y, q, h1, h2⟩ := got_bind h
    have a := ih _ _ _ _ h1; have b := ih _ _ _ _ h2; simp only [NT.weak] at a b ⊢; omega
  | loop k z =>
   simp only [prs] at h; split at h
   ·rename_i hk
    have := head_lt hk.1; obtain ⟨y, q, h1, h2⟩ := got_bind h; have a := ih _ _ _ _ h1; split at h2
    ·have b := got_len h2
     simp only [NT.weak] at a ⊢; omega
    ·have b := ih _ _ _ _ h2
     simp only [NT.weak] at a b ⊢; omega
   ·have b := got_len h
    simp only [NT.weak]; omega
  | unary =>
   simp only [prs] at h; simp only [NT.weak]; split at h
   ·rename_i hb
    have := tail_lt hb; obtain ⟨y, q, h1, h2⟩ := got_bind h; have a := ih _ _ _ _ h1; have b := got_len h2; simp only [NT.weak] at a; omega
   ·split at h
    ·rename_i hb
     have := tail_lt hb; obtain ⟨y, q, h1, h2⟩ := got_bind h; have a := ih _ _ _ _ h1; have b := got_len h2; simp only [NT.weak] at a; omega
    ·split at h
     ·have a := ih _ _ _ _ h
      exact a
     ·split at h
      ·have := number_lt h; omega
      ·obtain ⟨y, q, h1, h2⟩ := got_bind h
       have := whole_lt h1; split at h2
       ·have b := ih _ _ _ _ h2
        simp only [NT.weak] at b; omega
       ·have b := ih _ _ _ _ h2
        simp only [NT.weak] at b; omega
  | asked =>
   simp only [prs] at h; simp only [NT.weak]; obtain ⟨y, q, h1, h2⟩ := got_bind h; have := need_lt h1; obtain ⟨y2, q2, h3, h4⟩ := got_bind h2; have a := ih _ _ _ _ h3; obtain ⟨y3, q3, h5, h6⟩ := got_bind h4; have := need_lt h5; have := got_len h6; omega
  | place s =>
   simp only [prs] at h; simp only [NT.weak]; split at h
   ·rename_i hb
    have := tail_lt hb; obtain ⟨y2, q2, h3, h4⟩ := got_bind h; have a := ih _ _ _ _ h3; obtain ⟨y3, q3, h5, h6⟩ := got_bind h4; have := need_lt h5; have := got_len h6; omega
   ·have := got_len h
    omega
  | call s =>
   simp only [prs] at h; simp only [NT.weak]; obtain ⟨y, q, h1, h2⟩ := got_bind h; have := need_lt h1; have a := ih _ _ _ _ h2; omega
  | args s acc =>
   simp only [prs] at h; simp only [NT.weak]; split at h
   ·obtain ⟨y3, q3, h5, h6⟩ := got_bind h
    have := need_lt h5; have := got_len h6; omega
   ·obtain ⟨y, q, h1, h2⟩ := got_bind h
    have a := ih _ _ _ _ h1; split at h2
    ·rename_i hb
     have := tail_lt hb; have b := ih _ _ _ _ h2; simp only [NT.weak] at a b; omega
    ·obtain ⟨y3, q3, h5, h6⟩ := got_bind h2
     have := need_lt h5; have := got_len h6; simp only [NT.weak] at a; omega
  | block =>
   simp only [prs] at h; simp only [NT.weak]; obtain ⟨y, q, h1, h2⟩ := got_bind h; have := need_lt h1; have a := ih _ _ _ _ h2; omega
  | stats acc =>
   simp only [prs] at h; simp only [NT.weak]; split at h
   ·rename_i hb
    have := tail_lt hb; have := got_len h; omega
   ·obtain ⟨y, q, h1, h2⟩ := got_bind h
    have a := ih _ _ _ _ h1; have b := ih _ _ _ _ h2; simp only [NT.weak] at a b; omega
  | stat =>
   simp only [prs] at h; simp only [NT.weak]; split at h
   ·obtain ⟨y1, q1, h1, h2⟩ := got_bind h
    have := label_lt h1; obtain ⟨y3, q3, h3, h4⟩ := got_bind h2; have := name_lt h3; obtain ⟨y5, q5, h5, h6⟩ := got_bind h4; have := need_lt h5; obtain ⟨y7, q7, h7, h8⟩ := got_bind h6; have a := ih _ _ _ _ h7; have := semi_lt h8; omega
   split at h
   ·rename_i hb
    have := tail_lt hb; obtain ⟨y1, q1, h1, h2⟩ := got_bind h; have := whole_lt h1; obtain ⟨y7, q7, h7, h8⟩ := got_bind h2; have a := ih _ _ _ _ h7; have := semi_lt h8; omega
   split at h
   ·rename_i hb
    have := tail_lt hb; obtain ⟨y1, q1, h1, h2⟩ := got_bind h; have a := ih _ _ _ _ h1; obtain ⟨y3, q3, h3, h4⟩ := got_bind h2; have b := ih _ _ _ _ h3; split at h4
    ·rename_i hb
     have := tail_lt hb; obtain ⟨y5, q5, h5, h6⟩ := got_bind h4; have c := ih _ _ _ _ h5; have := got_len h6; omega
    ·have := got_len h4
     omega
   split at h
   ·rename_i hb
    have := tail_lt hb; obtain ⟨y1, q1, h1, h2⟩ := got_bind h; have a := ih _ _ _ _ h1; obtain ⟨y3, q3, h3, h4⟩ := got_bind h2; have b := ih _ _ _ _ h3; have := got_len h4; omega
   split at h
   ·rename_i hb
    have := tail_lt hb; obtain ⟨y1, q1, h1, h2⟩ := got_bind h; have := label_lt h1; obtain ⟨y7, q7, h7, h8⟩ := got_bind h2; have a := ih _ _ _ _ h7; have := semi_lt h8; omega
   split at h
   ·rename_i hb
    have := tail_lt hb; obtain ⟨y1, q1, h1, h2⟩ := got_bind h; have := label_lt h1; obtain ⟨y3, q3, h3, h4⟩ := got_bind h2; have := whole_lt h3; obtain ⟨y7, q7, h7, h8⟩ := got_bind h4; have a := ih _ _ _ _ h7; have := semi_lt h8; omega
   split at h
   ·rename_i hb
    have := tail_lt hb; obtain ⟨y7, q7, h7, h8⟩ := got_bind h; have a := ih _ _ _ _ h7; have := semi_lt h8; omega
   ·obtain ⟨y1, q1, h1, h2⟩ := got_bind h
    have := whole_lt h1; obtain ⟨y3, q3, h3, h4⟩ := got_bind h2; have a := ih _ _ _ _ h3; obtain ⟨y5, q5, h5, h6⟩ := got_bind h4; have := need_lt h5; obtain ⟨y7, q7, h7, h8⟩ := got_bind h6; have b := ih _ _ _ _ h7; have := semi_lt h8; omega
  | decl =>
   simp only [prs] at h; simp only [NT.weak]
   obtain ⟨l2, hl2, hle⟩ : ∃ l2, (if isB l [sPub] = true then l.tail else l) = l2 ∧ l2.length ≤ l.length := by
    refine ⟨_, rfl, ?_⟩
    split
    ·rename_i hb; have := tail_lt hb; omega
    ·exact Nat.le_refl _
   rw [hl2] at h; split at h
   ·rename_i hb
    have := tail_lt hb; have a := ih _ _ _ _ h; simp only [NT.weak] at a; omega
   ·obtain ⟨y1, q1, h1, h2⟩ := got_bind h
    have := label_lt h1; obtain ⟨y3, q3, h3, h4⟩ := got_bind h2; have := name_lt h3; split at h4
    ·rename_i hb
     have := tail_lt hb; obtain ⟨y5, q5, h5, h6⟩ := got_bind h4; have := number_lt h5; obtain ⟨y7, q7, h7, h8⟩ := got_bind h6; have := need_lt h7; have := semi_lt h8; omega
    ·have := semi_lt h4
     omega
  | proc pub =>
   simp only [prs] at h; simp only [NT.weak]; obtain ⟨y1, q1, h1, h2⟩ := got_bind h; have := name_lt h1; obtain ⟨y3, q3, h3, h4⟩ := got_bind h2; have := need_lt h3; have a := ih _ _ _ _ h4; omega
  | params s pub acc =>
   simp only [NT.weak]
   have done : ∀ (acc : List Nd) (l : List Tk), ((pNeed sClose l).bind fun _ l => (pLabel l).bind fun b l =>
     if isB l [sGives] = true then (pLabel l.tail).bind fun g l => (prs n .block l).bind fun x l => .got (.mk 4 s (pub + b + (4 + 4 * g)) (acc ++ [x])) l
     else (prs n .block l).bind fun x l => .got (.mk 4 s (pub + b) (acc ++ [x])) l) = .got x r → r.length + 1 ≤ l.length := by
    intro acc l h; obtain ⟨y1, q1, h1, h2⟩ := got_bind h; have := need_lt h1; obtain ⟨y3, q3, h3, h4⟩ := got_bind h2; have := label_lt h3; split at h4
    ·rename_i hb
     have := tail_lt hb; obtain ⟨y5, q5, h5, h6⟩ := got_bind h4; have := label_lt h5; obtain ⟨y7, q7, h7, h8⟩ := got_bind h6; have a := ih _ _ _ _ h7; have := got_len h8; omega
    ·obtain ⟨y7, q7, h7, h8⟩ := got_bind h4
     have a := ih _ _ _ _ h7; have := got_len h8; omega
   simp only [prs] at h; split at h
   ·exact done _ _ h
   ·obtain ⟨y1, q1, h1, h2⟩ := got_bind h
    have := label_lt h1; obtain ⟨y3, q3, h3, h4⟩ := got_bind h2; have := name_lt h3; split at h4
    ·rename_i hb
     have := tail_lt hb; have a := ih _ _ _ _ h4; simp only [NT.weak] at a; omega
    ·have := done _ _ h4
     omega
  | module =>
   simp only [prs] at h; simp only [NT.weak]; obtain ⟨y1, q1, h1, h2⟩ := got_bind h; have := need_lt h1; obtain ⟨y3, q3, h3, h4⟩ := got_bind h2; have := name_lt h3; obtain ⟨y5, q5, h5, h6⟩ := got_bind h4; have := need_lt h5; have a := ih _ _ _ _ h6; simp only [NT.weak] at a; omega
  | imports s acc =>
   simp only [prs] at h; simp only [NT.weak]; split at h
   ·rename_i hb
    have := tail_lt hb; obtain ⟨y3, q3, h3, h4⟩ := got_bind h; have := name_lt h3; obtain ⟨y5, q5, h5, h6⟩ := got_bind h4; have := need_lt h5; have a := ih _ _ _ _ h6; simp only [NT.weak] at a; omega
   ·have a := ih _ _ _ _ h
    simp only [NT.weak] at a; omega
  | decls s acc =>
   simp only [prs] at h; simp only [NT.weak]; split at h
   ·have := got_len h; omega
   ·obtain ⟨y1, q1, h1, h2⟩ := got_bind h
    have a := ih _ _ _ _ h1; have b := ih _ _ _ _ h2; simp only [NT.weak] at a b; omega
end synm
end Go.Proofs.YtpcihajmcejliacGreatDoor
namespace Go.Proofs.YtpcihajmcejliacGreatDoor
open Go.RowKit
namespace synw
theorem ends_at {P : Program} {fn : Func} {p : Tmp} {ty : TypeId} {Q : Ending → World → Prop} {a : Act} {w : World} {A : Nat} {T : TypeId} {cs : Array Value} {d : TypeDesc} (h : fn.results = #[.cell p ty]) (hd : a.defers = []) (hp : a.tmps[p]?.getD undef = .pointer (some ⟨A, 0, none⟩)) (hA : Blk w A cs T)
  (hu : P.underlying ty = some d) (hd2 : (match d with | .struct _ | .array _ _ => true | _ => false) = true) (hi : (P.info? ty).map (·.size) = some cs.size) (hq : Q (.returned (.agg cs)) w) : bodyPost P fn Q .ret a w := by
 refine bodyPost_ret (v := .agg cs) ?_ hd hq
 simp [results, h, hp, asAddr, run_loadVar_row w A T ty cs (0, 0) d hA hu hd2 hi]
def tkV (t : Tk) : Value := .agg #[.int .i64 t.kind, .string t.text, .int .i64 t.at_]
def hdTk (E : Nat) : List Tk → Tk
 | [] => ⟨0, ⟨#[]⟩, E⟩
 | t :: _ => t
theorem hd_pos (E : Nat) (l : List Tk) : (hdTk E l).at_ = posOf E l := by cases l <;> rfl
theorem hd_kind (E : Nat) (l : List Tk) : (hdTk E l).kind = kindOf l := by cases l <;> rfl
theorem hd_text (E : Nat) (l : List Tk) : (hdTk E l).text = textOf l := by cases l <;> rfl
set_option maxRecDepth 100000 in
set_option maxHeartbeats 1000000 in
theorem peek_any {W w : World} {S E : Nat} {l : List Tk} (h : PrAt W w S E l) :
  Calls Tryz.prog 174 #[.pointer (some ⟨S, 0, none⟩)] w fun e w' => e = .returned (tkV (hdTk E l)) ∧ Ext w w' := by
 obtain ⟨a, n, c, k, hb, h1, h2, h3⟩ := h.ex; have hA := Blk.made w #[.int .i64 0, .string ⟨#[]⟩, .int .i64 0] 195; have hX := (Chg.refl (fun _ => False) w).alloc (.cells #[.int .i64 0, .string ⟨#[]⟩, .int .i64 0] 195); have hb2 := hb.alloc (.cells #[.int .i64 0, .string ⟨#[]⟩, .int .i64 0] 195); have hbl := hb.lt; have hc0 := hb2.cell 0; have hc1 := hb2.cell 1; have hc2 := hb2.cell 2; simp at hc0 hc1 hc2
 have hf := hb2.frozen; cases l with
 | nil =>
  simp only [List.length_nil, Nat.add_zero] at h1; subst h1; have HX := Z_ hX; have HA := Z_ hA; clear h3 hX h hb hb2 hA; go_enter Tryz.func174, Tryz.ntmps174
  go_wp2_with fail
  go_quiet (fail)
  have hA2 := HA.out.drewN nq; have hX2 := Z_ (HX.out.drewN nq); have hc := hA2.cell; have hff := hA2.frozen; have hl2 := hA2.lt; have hc2' : (World.drewN (w.alloc (.cells #[.int .i64 0, .string ⟨#[]⟩, .int .i64 0] 195)) nq).cell? ⟨S, 2, none⟩ = some (.int .i64 E) := hc2; generalize World.drewN (w.alloc (.cells #[.int .i64 0, .string ⟨#[]⟩, .int .i64 0] 195)) nq = w2 at *; clear hc0 hc1 hc2 hf HX HA; go_wp2_with fail
  refine ends_at rfl rfl rfl (((hA2.set 0 _).set 1 _).set 2 _) Tryz.underlying195 rfl (by kernel_rfl) ?_
  exact ⟨rfl, ((hX2.out.setNew (p := ⟨w.heap.size, 0, none⟩) (by simp) _).setNew (p := ⟨w.heap.size, 1, none⟩) (by simp) _).setNew (p := ⟨w.heap.size, 2, none⟩) (by simp) _⟩
 | cons t r =>
  obtain ⟨b, o, rfl, hbb, ht⟩ := h3 0 (by simp); obtain ⟨t0, t1, t2, -⟩ := ht; have hW := h.ext.ext hX; have hbW := Nat.lt_of_lt_of_le hbb hW.size; have e : ∀ i, (w.alloc (.cells #[.int .i64 0, .string ⟨#[]⟩, .int .i64 0] 195)).cell? ⟨b, i, none⟩ = W.cell? ⟨b, i, none⟩ := fun i => hW.cell (by exact hbb) id
  rw [← e] at t0 t1 t2; simp only [Nat.add_zero, List.getElem_cons_zero] at t0 t1 t2; have hkn : (k : Int) < (n : Int) := by simp at h1; omega
  have HX := Z_ hX; have HA := Z_ hA; clear h3 hX h hb hb2 hA e hW h1; obtain ⟨tk, tt, ta⟩ := t; simp only at t0 t1 t2; go_enter Tryz.func174, Tryz.ntmps174
  go_wp2_with fail
  go_quiet (fail)
  have hA2 := HA.out.drewN nq; have hX2 := Z_ (HX.out.drewN nq); have hc := hA2.cell; have hff := hA2.frozen; have hl2 := hA2.lt; replace t0 : (World.drewN (w.alloc (.cells #[.int .i64 0, .string ⟨#[]⟩, .int .i64 0] 195)) nq).cell? ⟨b, o + k * 3, none⟩ = _ := t0; replace t1 : (World.drewN (w.alloc (.cells #[.int .i64 0, .string ⟨#[]⟩, .int .i64 0] 195)) nq).cell? ⟨b, o + k * 3 + 1, none⟩ = _ := t1; replace t2 : (World.drewN (w.alloc (.cells #[.int .i64 0, .string ⟨#[]⟩, .int .i64 0] 195)) nq).cell? ⟨b, o + k * 3 + 2, none⟩ = _ := t2; replace hc0 : (World.drewN (w.alloc (.cells #[.int .i64 0, .string ⟨#[]⟩, .int .i64 0] 195)) nq).cell? ⟨S, 0, none⟩ = _ := hc0; replace hc1 : (World.drewN (w.alloc (.cells #[.int .i64 0, .string ⟨#[]⟩, .int .i64 0] 195)) nq).cell? ⟨S, 1, none⟩ = _ := hc1; generalize World.drewN (w.alloc (.cells #[.int .i64 0, .string ⟨#[]⟩, .int .i64 0] 195)) nq = w2 at *
  clear hc2 hf HX HA; go_wp2_with fail
  go_still_tail 10, (by kernel_rfl)
  change wpList _ _ _ _ _ w2.drew
  have hA3 := hA2.drew; have hc := hA3.cell; have hff := hA3.frozen; have hl2 := hA3.lt; have hX3 := Z_ hX2.out.drew; clear t0 t1 t2 hc0 hc1 hA2 hX2; generalize w2.drew = w3 at *; go_wp2_with fail
  refine ends_at rfl rfl rfl (((hA3.set 0 _).set 1 _).set 2 _) Tryz.underlying195 rfl (by kernel_rfl) ?_
  exact ⟨rfl, ((hX3.out.setNew (p := ⟨w.heap.size, 0, none⟩) (by simp) _).setNew (p := ⟨w.heap.size, 1, none⟩) (by simp) _).setNew (p := ⟨w.heap.size, 2, none⟩) (by simp) _⟩
theorem ext_at {w w' : World} (h : Ext w w') (S : Nat) : Chg (fun i => i = S) w w' := h.weak fun _ _ h => h.elim
theorem chg_set {w u : World} {S : Nat} (h : Chg (fun i => i = S) w u) (o : Nat) (v : Value) : Chg (fun i => i = S) w (u.setCell ⟨S, o, none⟩ v) := h.setCell (p := ⟨S, o, none⟩) (fun _ => rfl) v
theorem pr_ok {W w : World} {S E : Nat} {t : Tk} {r : List Tk} (h : PrAt W w S E (t :: r)) : TkOk t := by
 obtain ⟨a, n, c, k, hb, h1, h2, h3⟩ := h.ex; obtain ⟨b, o, -, -, ht⟩ := h3 0 (by simp); exact ht.ok
theorem pr_step {W w : World} {S E : Nat} {t : Tk} {r : List Tk} (h : PrAt W w S E (t :: r)) : ∃ k : Nat, w.cell? ⟨S, 1, none⟩ = some (.int .i64 k) ∧ k < 10000 ∧ PrAt W (w.setCell ⟨S, 1, none⟩ (.int .i64 ((k : Int) + 1))) S E r := by
 obtain ⟨a, n, c, k, hb, h1, h2, h3⟩ := h.ex; refine ⟨k, hb.cell 1, by simp at h1; omega, ⟨a, n, c, k + 1, ?_, by simp at h1; omega, h2, h3.tail⟩, h.ext.setNew h.hS _, h.hS⟩
 have := hb.set 1 (.int .i64 ((k : Int) + 1)); exact this
theorem pr_blk {W w : World} {S E : Nat} {l : List Tk} (h : PrAt W w S E l) : ∃ a n c k, Blk w S #[.slice a n c, .int .i64 (k : Nat), .int .i64 (E : Nat)] 108 ∧ k + l.length = n ∧ n ≤ 10000 := by
 obtain ⟨a, n, c, k, hb, h1, h2, h3⟩ := h.ex; exact ⟨a, n, c, k, hb, h1, h2⟩
theorem field_at (a b c : Value) (w : World) : (Instr.field 195 (.agg #[a, b, c]) 2).run Tryz.prog w = .ok c w := by
 unfold Instr.field; simp [asAgg, part, run_underlying Tryz.underlying195]
theorem field_kind (a b c : Value) (w : World) : (Instr.field 195 (.agg #[a, b, c]) 0).run Tryz.prog w = .ok a w := by
 unfold Instr.field; simp [asAgg, part, run_underlying Tryz.underlying195]
set_option maxRecDepth 100000 in
set_option maxHeartbeats 1000000 in
theorem fail_any {W w : World} {S E : Nat} {l : List Tk} (h : PrAt W w S E l) :
  Calls Tryz.prog 173 #[.pointer (some ⟨S, 0, none⟩)] w fun e w' => e = .panicked (badV (posOf E l)) ∧ Ext w w' := by
 have HC := Z_ (peek_any h); rw [← hd_pos]; clear h; generalize hdTk E l = t at HC ⊢; obtain ⟨tk, tt, ta⟩ := t; go_enter Tryz.func173, Tryz.ntmps173
 go_wp2_with fail
 refine HC.out.mono ?_
 rintro e w' ⟨rfl, hE⟩; unfold tkV; have hfi := field_at (.int .i64 tk) (.string tt) (.int .i64 ta) w'; go_wp2_with fail
 exact ⟨rfl, rfl, hE⟩
theorem str_eq {a b : ByteArray} : (a.toList == b.toList) = decide (a = b) := by
 rw [ByteArray.toList_eq, ByteArray.toList_eq, Bool.eq_iff_iff]; simp only [beq_iff_eq, decide_eq_true_eq]; constructor
 ·intro h; exact ByteArray.ext (Array.ext' h)
 ·rintro rfl; rfl
theorem any_drop {ws : List ByteArray} {s : ByteArray} {j : Nat} (h : j < ws.length) : ((ws.drop j).any fun x => decide (s = x)) = (decide (s = ws[j]) || ((ws.drop (j + 1)).any fun x => decide (s = x))) := by
 rw [List.drop_eq_getElem_cons h, List.any_cons]
set_option maxRecDepth 100000 in
set_option maxHeartbeats 1000000 in
theorem index_any (g : Nat) (ws : List ByteArray) (n c : Nat) (s : ByteArray) (w : World) (hn : ws.length = n) (hm : n ≤ 100) (hws : ∀ j (h : j < ws.length), w.cell? ⟨g, j, none⟩ = some (.string ws[j])) :
  Calls Tryz.prog 275 #[.slice (some ⟨g, 0, none⟩) n c, .string s] w fun e w' => Ext w w' ∧ ∃ i : Int, e = .returned (.int .i64 i) ∧ decide (0 ≤ i) = ws.any fun x => decide (s = x) := by
 obtain ⟨R, hR⟩ : ∃ R, (ws.any fun x => decide (s = x)) = R := ⟨_, rfl⟩; rw [hR]; have HW := Z_ hws; have HN := Z_ hn; have HR := Z_ hR; clear hws hn hR; go_enter Tryz.func275, Tryz.ntmps275
 go_wp2_with fail
 go_loopw [8] (fun i wr => ∃ k : Nat, k ≤ n ∧ i = .int .i64 k ∧ w = wr ∧ Hid (((ws.drop k).any fun x => decide (s = x)) = R)) (fun i _ => n - (intOf i).toNat)
 case atStart => exact ⟨0, Nat.zero_le _, rfl, rfl, HR⟩
 case round =>
  obtain ⟨k, hk, rfl, rfl, hr⟩ := hrel; by_cases hlt : k < n
  ·have hkl : k < ws.length := by rw [HN.out]; exact hlt
   have hki : (k : Int) < (n : Int) := by omega
   have h0 := HW.out k hkl; have hr2 := hr.out; rw [any_drop hkl] at hr2; generalize ws[k] = x at *; by_cases e : s = x
   ·subst e
    have HT := Z_ (show R = true by rw [← hr2]; simp); have he : (s.toList == s.toList) = true := by simp
    clear hr2 hr; go_wp2_with fail
    go_ret
    refine ⟨Chg.refl _ _, (k : Int), rfl, ?_⟩
    rw [HT.out]; simp
   ·have he : (s.toList == x.toList) = false := by rw [str_eq]; simpa using e
    have HT := Z_ (show ((ws.drop (k + 1)).any fun x => decide (s = x)) = R by rw [← hr2]; simp [e]); clear hr2 hr; go_wp2_with fail
    go_roundw
    case rel => exact ⟨k + 1, by omega, by go_num, trivial, HT⟩
    case measure => simp [intOf]; omega
  ·obtain rfl : k = n := by omega
   have HT := Z_ (show R = false by have := hr.out; rw [List.drop_of_length_le (by rw [HN.out]; exact Nat.le_refl _)] at this; rw [← this]; rfl); clear hr; go_wp2_with fail
   go_ret
   exact ⟨Chg.refl _ _, -1, rfl, by rw [HT.out]; rfl⟩
set_option maxRecDepth 100000 in
theorem contains_any (g : Nat) (ws : List ByteArray) (n c : Nat) (s : ByteArray) (w : World) (hn : ws.length = n) (hm : n ≤ 100) (hws : ∀ j (h : j < ws.length), w.cell? ⟨g, j, none⟩ = some (.string ws[j])) :
  Calls Tryz.prog 228 #[.slice (some ⟨g, 0, none⟩) n c, .string s] w fun e w' => e = .returned (.bool (ws.any fun x => decide (s = x))) ∧ Ext w w' := by
 have HC := Z_ (index_any g ws n c s w hn hm hws); obtain ⟨R, hR⟩ : ∃ R, (ws.any fun x => decide (s = x)) = R := ⟨_, rfl⟩; rw [hR] at HC ⊢; clear hws hn hR; go_enter Tryz.func228, Tryz.ntmps228
 go_wp2_with fail
 refine HC.out.mono ?_
 rintro e w' ⟨hE, i, rfl, hi⟩; subst hi; go_wp2_with fail
 go_ret
 exact ⟨by simp, hE⟩
set_option maxRecDepth 100000 in
set_option maxHeartbeats 1000000 in
theorem is_any {W w : World} {S E : Nat} {l : List Tk} (h : PrAt W w S E l) (g : Nat) (ws : List ByteArray) (n c : Nat) (hn : ws.length = n) (hm : n ≤ 100) (hws : ∀ j (h : j < ws.length), w.cell? ⟨g, j, none⟩ = some (.string ws[j])) (hg : g < w.heap.size) :
  Calls Tryz.prog 175 #[.pointer (some ⟨S, 0, none⟩), .slice (some ⟨g, 0, none⟩) n c] w fun e w' => e = .returned (.bool (isB l ws)) ∧ Ext w w' := by
 have HC := Z_ (peek_any h)
 have hcon : ∀ (s : ByteArray) (u : World), Ext w u → Calls Tryz.prog 228 #[.slice (some ⟨g, 0, none⟩) n c, .string s] u fun e w' => e = .returned (.bool (ws.any fun x => decide (s = x))) ∧ Ext u w' :=
  fun s u hE => contains_any g ws n c s u hn hm fun j hj => by rw [hE.cell (by exact hg) id]; exact hws j hj
 have HCON := Z_ hcon; obtain ⟨R, hR⟩ : ∃ R, isB l ws = R := ⟨_, rfl⟩; rw [hR]
 have hk : ∀ t ∈ l.head?, TkOk t := by
  cases l with
  | nil => intro t ht; cases ht
  | cons t r => intro t' ht; obtain rfl : t = t' := by simpa using ht
                exact pr_ok h
 have HK := Z_ hk; have HR := Z_ hR; clear hws hn hR h hcon hk; cases l with
 | nil =>
  have hRf : R = false := HR.out.symm; subst hRf; clear HR HK; simp only [hdTk] at HC; go_enter Tryz.func175, Tryz.ntmps175
  go_wp2_with fail
  refine HC.out.mono ?_
  rintro e w1 ⟨rfl, hE⟩; unfold tkV; have hA := Blk.made w1 #[.int .i64 0, .string ⟨#[]⟩, .int .i64 E] 195; have hE2 := hE.alloc (.cells #[.int .i64 0, .string ⟨#[]⟩, .int .i64 E] 195); go_wp2_with fail
  go_ret
  exact ⟨rfl, hE2⟩
 | cons t r =>
  have ho := HK.out t rfl; obtain ⟨tk, tt, ta⟩ := t; have hr := HR.out; simp only [isB] at hr; simp only [hdTk] at HC; have hk1 := ho.kinds; simp only at hk1; clear HR HK ho; by_cases hk2 : tk = 2
  ·subst hk2
   have hRf : R = false := by rw [← hr]; rfl
   subst hRf; clear hr; go_enter Tryz.func175, Tryz.ntmps175
   go_wp2_with fail
   refine HC.out.mono ?_
   rintro e w1 ⟨rfl, hE⟩; unfold tkV; have hE2 := hE.alloc (.cells #[.int .i64 2, .string tt, .int .i64 ta] 195); go_wp2_with fail
   go_ret
   exact ⟨rfl, hE2⟩
  ·have hr2 : (ws.any fun s => decide (tt = s)) = R := by rw [← hr]; simp [hk2]
   have HR2 := Z_ hr2; have hb2 : (tk != 2) = true := by simpa using hk2
   have hb0 : (tk != 0) = true := by simp; omega
   clear hr hr2; go_enter Tryz.func175, Tryz.ntmps175
   go_wp2_with fail
   refine HC.out.mono ?_
   rintro e w1 ⟨rfl, hE⟩; unfold tkV; have hE2 := hE.alloc (.cells #[.int .i64 tk, .string tt, .int .i64 ta] 195); go_wp2_with fail
   refine (HCON.out tt _ hE2).mono ?_
   rintro e w2 ⟨rfl, hE3⟩; rw [HR2.out]; go_wp2_with fail
   go_ret
   exact ⟨rfl, hE2.ext hE3⟩
theorem isB_some {l : List Tk} {ws : List ByteArray} (h : isB l ws = true) : ∃ t r, l = t :: r := by
 cases l with
 | nil => cases h
 | cons t r => exact ⟨t, r, rfl⟩
set_option maxRecDepth 100000 in
set_option maxHeartbeats 1000000 in
theorem have_any {W w : World} {S E : Nat} {l : List Tk} (h : PrAt W w S E l) (s : ByteArray) :
  Calls Tryz.prog 97 #[.pointer (some ⟨S, 0, none⟩), .string s] w
   fun e w' => e = .returned (.bool (isB l [s])) ∧ Chg (fun i => i = S) w w' ∧ PrAt W w' S E (if isB l [s] = true then l.tail else l) := by
 have hS := h.lt; have hP1 := h.alloc (.cells #[.string s] 9)
 have HC := Z_ (is_any hP1 w.heap.size [s] 1 1 rfl (by decide) (fun j hj => by
  obtain rfl : j = 0 := by simpa using hj
  exact (Blk.made w #[.string s] 9).cell 0) (by simp))
 have hC0 : Chg (fun i => i = S) w (w.alloc (.cells #[.string s] 9)) := (Chg.refl _ _).alloc _; have HP := Z_ (fun u (hE : Ext (w.alloc (.cells #[.string s] 9)) u) => hP1.extend hE); have hl := @isB_some l [s]; generalize isB l [s] = R at *; clear h hP1; cases R with
 | false =>
  clear hl; go_enter Tryz.func97, Tryz.ntmps97
  go_wp2_with fail
  refine HC.out.mono ?_
  rintro e w1 ⟨rfl, hE⟩; go_wp2_with fail
  go_ret
  exact ⟨rfl, hC0.ext hE, HP.out _ hE⟩
 | true =>
  obtain ⟨t, r, rfl⟩ := hl rfl; go_enter Tryz.func97, Tryz.ntmps97
  go_wp2_with fail
  refine HC.out.mono ?_
  rintro e w1 ⟨rfl, hE⟩; have hP := HP.out _ hE; obtain ⟨k, hk, hk2, hP2⟩ := pr_step hP; obtain ⟨a', n', c', k', hB, -, -⟩ := pr_blk hP; have hf := hB.frozen 1; have hSl := hB.lt; have hkw : IntKind.i64.wrap ((k : Int) + 1) = (k : Int) + 1 := by unfold IntKind.wrap; simp only [IntKind.bits, IntKind.signed]; simp; omega
  have HP2 := Z_ hP2; clear hP2 hP hB; go_wp2_with fail
  go_ret
  exact ⟨rfl, (hC0.ext hE).setCell (p := ⟨S, 1, none⟩) (fun _ => rfl) _, HP2.out⟩
set_option maxRecDepth 100000 in
set_option maxHeartbeats 1000000 in
theorem need_any {W w : World} {S E : Nat} {l : List Tk} (h : PrAt W w S E l) (g c : Nat) (s : ByteArray) (hg : w.cell? ⟨g, 0, none⟩ = some (.string s)) :
  Calls Tryz.prog 94 #[.pointer (some ⟨S, 0, none⟩), .slice (some ⟨g, 0, none⟩) 1 c] w (Pst VUnit W w S E (pNeed s l)) := by
 have HC := Z_ (have_any h s); have HFA := Z_ (fun (u : World) (h : PrAt W u S E l) => fail_any h); have hT : pNeed s l = if isB l [s] = true then .got () l.tail else .bad l := rfl
 obtain ⟨T, hT2⟩ : ∃ T, pNeed s l = T := ⟨_, rfl⟩; rw [hT2]; rw [hT2] at hT; clear hT2; generalize isB l [s] = R at *; have HT := Z_ hT; clear h hT; go_enter Tryz.func94, Tryz.ntmps94
 go_wp2_with fail
 go_loopw [8] (fun i wr => ∃ k : Nat, i = .int .i64 k ∧ ((k = 0 ∧ w = wr) ∨ (k = 1 ∧ Hid (R = true ∧ Chg (fun i => i = S) w wr ∧ PrAt W wr S E l.tail)))) (fun i _ => 1 - (intOf i).toNat)
 case atStart => exact ⟨0, rfl, .inl ⟨rfl, rfl⟩⟩
 case round =>
  obtain ⟨k, rfl, ⟨rfl, rfl⟩ | ⟨rfl, hr⟩⟩ := hrel
  ·go_wp2_with fail
   refine HC.out.mono ?_
   rintro e w1 ⟨rfl, hC, hP⟩; cases R with
   | true =>
    have HR := Z_ (show true = true ∧ Chg (fun i => i = S) w w1 ∧ PrAt W w1 S E l.tail from ⟨rfl, hC, by simpa using hP⟩); clear hC hP; go_wp2_with fail
    go_roundw
    case rel => exact ⟨1, rfl, .inr ⟨rfl, HR⟩⟩
    case measure => simp [intOf]
   | false =>
    have hP2 : PrAt W w1 S E l := by simpa using hP
    have HC2 := Z_ hC; have HF := Z_ (HFA.out _ hP2); clear hC hP hP2; go_wp2_with fail
    refine HF.out.mono ?_
    rintro e w2 ⟨rfl, hE⟩; go_wp2_with fail
    exact ⟨rfl, Pst.fails (HC2.out.ext hE) (by simpa using HT.out)⟩
  ·go_wp2_with fail
   go_end0
   obtain ⟨rfl, hC, hP⟩ := hr.out; exact Pst.reads hC (by simpa using HT.out) rfl hP
set_option maxRecDepth 100000 in
set_option maxHeartbeats 1000000 in
theorem node_any (k m : Int) (s : ByteArray) (a : Option Addr) (n c : Nat) (w : World) :
  Calls Tryz.prog 95 #[.int .i64 k, .string s, .int .i64 m, .slice a n c] w fun e w' => e = .returned (.agg #[.int .i64 k, .string s, .int .i64 m, .slice a n c]) ∧ Ext w w' := by
 obtain ⟨N, hN⟩ : ∃ N, w.heap.size = N := ⟨_, rfl⟩; have hA := Blk.made w #[.int .i64 0, .string ⟨#[]⟩, .int .i64 0, .slice none 0 0] 24; have hX := (Chg.refl (fun _ => False) w).alloc (.cells #[.int .i64 0, .string ⟨#[]⟩, .int .i64 0, .slice none 0 0] 24); rw [hN] at hA; have hc := hA.cell; have hf := hA.frozen; have hl := hA.lt; have HX := Z_ hX; have HA := Z_ hA; clear hX hA; go_enter Tryz.func95, Tryz.ntmps95
 go_wp2_with fail
 have hB := Blk.made w #[.int .i64 k, .string s, .int .i64 m, .slice a n c] 24; rw [hN] at hB; refine ends_at rfl rfl rfl hB Tryz.underlying24 rfl (by kernel_rfl) ?_
 exact ⟨rfl, (Chg.refl _ _).alloc _⟩
set_option maxRecDepth 100000 in
set_option maxHeartbeats 1000000 in
theorem label_any {W w : World} {S E : Nat} {l : List Tk} (h : PrAt W w S E l) :
  Calls Tryz.prog 177 #[.pointer (some ⟨S, 0, none⟩)] w (Pst VLab W w S E (pLabel l)) := by
 have HC := Z_ (have_any h sHigh); have hT : pLabel l = if isB l [sHigh] = true then .got 1 l.tail else (pNeed sLow l).bind fun _ l => .got 0 l := rfl
 obtain ⟨T, hT2⟩ : ∃ T, pLabel l = T := ⟨_, rfl⟩; rw [hT2]; rw [hT2] at hT; clear hT2; generalize isB l [sHigh] = R at *; have HT := Z_ hT; clear h hT; go_enter Tryz.func177, Tryz.ntmps177
 go_wp2_with fail
 refine HC.out.mono ?_
 rintro e w1 ⟨rfl, hC, hP⟩; cases R with
 | true =>
  have hP2 : PrAt W w1 S E l.tail := by simpa using hP
  have HR := Z_ (Pst.reads (V := VLab) hC HT.out ⟨rfl, by decide, by decide⟩ hP2); clear hC hP hP2; go_wp2_with fail
  go_ret
  exact HR.out
 | false =>
  have hP2 : PrAt W w1 S E l := by simpa using hP
  have HN := Z_ (need_any (hP2.alloc (.cells #[.string sLow] 9)) w1.heap.size 1 sLow ((Blk.made w1 #[.string sLow] 9).cell 0)); have hC2 := hC.alloc (.cells #[.string sLow] 9); have HC2 := Z_ hC2; have HT2 := Z_ (show (pNeed sLow l).bind (fun _ l => .got 0 l) = T by have := HT.out; simpa using this.symm); clear hC hP hP2 hC2 HT; go_wp2_with fail
  refine HN.out.mono ?_
  rintro e w2 hr; have hne : pNeed sLow l ≠ .out := by unfold pNeed; split <;> intro h <;> cases h
  obtain ⟨hC3, ⟨l2, hp, rfl⟩ | ⟨x, l2, v, hp, rfl, rfl, hP3⟩⟩ := hr.cases hne
  ·have HF := Z_ (Out.bind_bad HT2.out hp)
   have HC3 := Z_ (HC2.out.then hC3); clear hr hp hC3 hne; go_wp2_with fail
   exact ⟨rfl, Pst.fails HC3.out HF.out⟩
  ·have HF := Z_ (Out.bind_got HT2.out hp)
   have HC3 := Z_ (HC2.out.then hC3); have HP3 := Z_ hP3; clear hr hp hC3 hne hP3; go_wp2_with fail
   go_ret
   exact Pst.reads HC3.out HF.out.symm ⟨rfl, by decide, by decide⟩ HP3.out
end synw
end Go.Proofs.YtpcihajmcejliacGreatDoor
namespace Go.Proofs.YtpcihajmcejliacGreatDoor
open Go.RowKit
def MaxVar (w : World) : Prop := ∃ m, w.cell? ⟨1, 0, none⟩ = some (.int .i64 m)
theorem MaxVar.chg {S : Nat → Prop} {w w' : World} (h : MaxVar w) (hc : Chg S w w') (hn : ¬ S 1) : MaxVar w' := by
 obtain ⟨m, h⟩ := h; have hl := World.block_lt_of_cell? w _ h; exact ⟨m, by rw [hc.cell hl hn]; exact h⟩
theorem MaxVar.ext {w w' : World} (h : MaxVar w) (hc : Ext w w') : MaxVar w' := h.chg hc id
namespace name
theorem size_list (s : ByteArray) : s.data.toList.length = s.size := by rw [Array.length_toList]; rfl
set_option maxRecDepth 100000 in
set_option maxHeartbeats 1000000 in
theorem isname_any (s : ByteArray) (w : World) (hs : s.size ≤ 9223372036854775807) (hv : ErrVar w) (hm : MaxVar w) :
  Calls Tryz.prog 56 #[.string s] w fun e w' => e = .returned (.bool (nameB s.data.toList)) ∧ Ext w w' := by
 generalize hR : nameB s.data.toList = R; have hRR := hR; rw [nameB] at hRR; have HR := Z_ hRR; clear hR hRR; obtain ⟨T, hT⟩ : ∃ T, scanF s.data.toList = T := ⟨_, rfl⟩; have C1 := Z_ (fun w hv => lexTells.scan_all s w hs hv T hT); have hword : wordB s.data.toList = true → T = ([(1, 0, s.size)], 0, 0) := fun h => by rw [← hT, scan_word _ h, size_list]
 have HT := Z_ hT; obtain ⟨l, c, a⟩ := T; simp only at C1; clear hT; go_enter Tryz.func56, Tryz.ntmps56
 go_wp2_with fail
 refine (C1.out _ hv).mono ?_
 rintro e w1 ⟨v, rfl, ho, hE⟩; have hfalse : wordB s.data.toList = false → R = false := fun h => by rw [← HR.out, h]; rfl
 by_cases hc : c = 0
 ·subst hc
  by_cases hl : l.length = 1
  ·obtain ⟨⟨kd, p, n⟩, rfl⟩ := List.length_eq_one_iff.1 hl
   obtain ⟨g, cap, rfl⟩ : ∃ g cap, v = .slice (some ⟨g, 0, none⟩) 1 cap := by
    rcases ho.2 with ⟨_, h⟩ | ⟨g, cap, cur, rfl, _⟩
    ·cases h
    ·exact ⟨g, cap, rfl⟩
   have a0 : w1.cell? ⟨g, 0, none⟩ = some (.int .i64 kd) := (ho.cellAt 0 (by decide)).trans rfl; have a1 : w1.cell? ⟨g, 1, none⟩ = some (.string (s.extract p (p + n))) := (ho.cellAt 1 (by decide)).trans rfl; have hg : g < w1.heap.size := (ho.lt g rfl).2; have hE1 := Z_ (hE.alloc (.cells #[.int .i64 0, .int .i64 a] 27)); by_cases hk : kd = 1
   ·subst hk
    by_cases ht : (s.data.toList.drop p).take n = s.data.toList
    ·have hw := word_of_scan _ p n a HT.out ht
     have hx : s.extract p (p + n) = s := by
      apply ByteArray.ext
      apply Array.ext'
      rw [lex.extract_list]; exact ht
     have hcw := contains_words _ hw; have hR2 : R = !reservedL.contains s.data.toList := by rw [← HR.out, hw]; rfl
     have h16 : s.size ≤ 16 := by
      simp only [wordB, Bool.and_eq_true, decide_eq_true_eq, size_list] at hw; exact hw.1.2
     obtain ⟨B, hB⟩ : ∃ B, reservedL.contains s.data.toList = B := ⟨_, rfl⟩; rw [hB] at hcw hR2; obtain ⟨m, hm2⟩ := (hm.ext (hE.alloc (.cells #[.int .i64 0, .int .i64 a] 27)))
     have hsub : ((⟨#[32]⟩ : ByteArray) ++ s ++ ⟨#[32]⟩).data.toList = 32 :: (s.data.toList ++ [32]) := by
      simp [ByteArray.data_append]
     have cc := Tryz.strings_Contains ⟨#[32, 100, 111, 32, 101, 108, 115, 101, 32, 103, 105, 118, 101, 115, 32, 104, 105, 103, 104, 32, 105, 102, 32, 105, 109, 112, 111, 114, 116, 32, 105, 110, 32, 108, 111, 119, 32, 109, 111, 100, 117, 108, 101, 32, 111, 117, 116, 32, 112, 114, 111, 99, 32, 112, 117, 98, 32, 114, 101, 116, 117, 114, 110, 32, 119, 104, 105, 108, 101, 32]⟩ ((⟨#[32]⟩ : ByteArray) ++ s ++ ⟨#[32]⟩) m _ (by decide) hm2; rw [hsub] at cc; have CC := Z_ cc; have HCW := Z_ hcw; rw [hx] at a1; clear cc hm2 hsub hcw hB ho hx hw ht hword hfalse hl; go_wp2_with fail
     refine CC.out.mono ?_
     rintro e w' ⟨rfl, rfl⟩; rw [HCW.out]; go_wp2_with fail
     go_ret
     exact ⟨ret_bool hR2.symm, hE1.out⟩
    ·have hnw : wordB s.data.toList = false := by
      cases hw : wordB s.data.toList
      ·rfl
      ·have := hword hw
       have e1 := congrArg (fun T : List Tok × Int × Nat => (T.1.map (·.2.1), T.1.map (·.2.2))) this; simp at e1
       obtain ⟨rfl, rfl⟩ := e1; exact absurd (by rw [List.drop_zero, List.take_of_length_le (by rw [size_list]; exact Nat.le_refl _)]) ht
     have hF := hfalse hnw; obtain ⟨x, hx⟩ : ∃ x, s.extract p (p + n) = x := ⟨_, rfl⟩
     have hxs : x ≠ s := by
      intro h; rw [h] at hx; exact ht (by rw [← lex.extract_list, hx])
     rw [hx] at a1
     have h2 : (x.toList == s.toList) = false := by
      rw [ByteArray.toList_eq, ByteArray.toList_eq, beq_eq_false_iff_ne]; intro h; exact hxs (ByteArray.ext (Array.ext' h))
     have h3 : (x.data.toList == s.data.toList) = false := by
      rw [beq_eq_false_iff_ne]; intro h; exact hxs (ByteArray.ext (Array.ext' h))
     clear ho hx hnw hword hfalse hl ht hxs; go_wp2_with fail
     go_ret
     exact ⟨ret_bool hF.symm, hE1.out⟩
   ·have hF := hfalse (by
     cases hw : wordB s.data.toList
     ·rfl
     ·have := hword hw
      have e1 := congrArg (fun T : List Tok × Int × Nat => T.1.map (·.1)) this; simp at e1
      exact absurd e1 hk)
    have hkd : (kd == 1) = false := by rw [beq_eq_false_iff_ne]; exact hk
    clear ho hword hfalse hl hk; go_wp2_with fail
    go_ret
    exact ⟨ret_bool hF.symm, hE1.out⟩
  ·have hF := hfalse (by
    cases hw : wordB s.data.toList
    ·rfl
    ·have := hword hw
     simp only [Prod.mk.injEq] at this; rw [this.1] at hl; exact absurd rfl hl)
   obtain ⟨g, n, cap, rfl, hn⟩ : ∃ g n cap, v = .slice g n cap ∧ n = l.length := by
    rcases ho.2 with ⟨rfl, h⟩ | ⟨g, cap, cur, rfl, _⟩
    ·exact ⟨_, _, _, rfl, h.symm⟩
    ·exact ⟨_, _, _, rfl, rfl⟩
   have hnl : ((n : Int) == 1) = false := by rw [beq_eq_false_iff_ne]; omega
   clear ho hword hfalse hl hn; go_wp2_with fail
   go_ret
   exact ⟨ret_bool hF.symm, hE.alloc _⟩
 ·have hF := hfalse (by
   cases hw : wordB s.data.toList
   ·rfl
   ·have := hword hw
    simp only [Prod.mk.injEq] at this; exact absurd this.2.1 hc)
  have hcc : (c == 0) = false := by rw [beq_eq_false_iff_ne]; exact hc
  clear ho hword hfalse hc; go_wp2_with fail
  go_ret
  exact ⟨ret_bool hF.symm, hE.alloc _⟩
end name
namespace rname
end rname
end Go.Proofs.YtpcihajmcejliacGreatDoor
