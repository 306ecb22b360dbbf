/- The walk of the reference's Parse. The walk of the law SyntaxParses: both Parses come to one node and one fault. The walk of the reference's Of: a text's face, its imports, its fault. -/
import Derived.Test.YtpcihajmcejliabGreatDoorOfP
import Derived.Test.YtpcihajmcejliabGreatDoorOfS
import Derived.Test.YtpcihajmcejliabGreatDoorLexRefN
import Derived.Test.YtpcihajmcejliabGreatDoorLexLawR
namespace Go.Proofs.YtpcihajmcejliabGreatDoor
open Go.RowKit
namespace synr
open synw
theorem scanTok_zero : ∀ (f : Nat) (l : List UInt8) (p : Nat) (acc : List Tok), (scanTok f l p acc).2.1 = 0 → (scanTok f l p acc).2.2 = 0 := by
 intro f; induction f with
 | zero => intro l p acc _; rfl
 | succ f ih =>
  intro l p acc h; simp only [scanTok] at h ⊢; split
  ·rename_i h1
   rw [if_pos h1] at h; split
   ·rename_i h2
    rw [if_pos h2] at h; exact ih _ _ _ h
   ·rename_i h2
    rw [if_neg h2] at h; exact absurd h h2
  ·rfl
theorem scan_zero {l : List UInt8} (h : (scanF l).2.1 = 0) : (scanF l).2.2 = 0 := by
 unfold scanF at h ⊢; split
 ·rename_i h1
  rw [if_pos h1] at h
 ·rename_i h1
  rw [if_neg h1] at h; exact scanTok_zero _ _ _ _ h
theorem tks_tag {w : World} {B : Nat} {s : ByteArray} {T : List Tok} {v : Value} (h : w.ownsRow B 163 3 v T.length (tokCells s T)) (hok : ∀ t ∈ tksOf s T, TkOk t) : ∃ a c, v = .slice a T.length c ∧ TksIn w a 0 (tksOf s T) ∧ ∃ p, B ≤ p + B ∧ ∀ b o, a = some ⟨b, o, none⟩ → b = p ∧ o = 0 ∧ B ≤ b := by
 obtain ⟨a, c, hv, ht⟩ := synk.tks_in h hok; obtain ⟨h1, h2⟩ := h; rcases h2 with ⟨rfl, h0⟩ | ⟨g, cap, cur, rfl, hb, hh, -⟩
 ·injection hv with e1 e2 e3
  subst e1; exact ⟨none, 0, by rw [← e2], ht, 0, by omega, fun b o e => by cases e⟩
 ·injection hv with e1 e2 e3
  subst e1; exact ⟨_, c, by rw [e3], ht, g, by omega, fun b o e => by cases e; exact ⟨rfl, rfl, hb⟩⟩
structure PA (W w u : World) (R F S : Nat) (l : List Tk) (b : Bool) : Prop where
 pr : RdrAt W u S l b
 r : Blk u R zeroNd 66
 f : Blk u F #[.int .i64 0, .int .i64 0] 68
 ext : Ext w u
 hR : w.heap.size ≤ R
 hRF : R < F
 hFS : F < S
theorem PA.call {W w u u' : World} {R F S : Nat} {l l' : List Tk} {b b' : Bool} (h : PA W w u R F S l b) (hC : Chg (fun i => i = S) u u') (hP : RdrAt W u' S l' b') : PA W w u' R F S l' b' := by
 have h1 := h.hR; have h2 := h.hRF; have h3 := h.hFS
 exact ⟨hP, h.r.chg hC (by omega), h.f.chg hC (by omega), h.ext.trans hC (fun i hi e => by omega), h1, h2, h3⟩
theorem PA.extend {W w u u' : World} {R F S : Nat} {l : List Tk} {b : Bool} (h : PA W w u R F S l b) (hE : Ext u u') : PA W w u' R F S l b := h.call (ext_at hE S) (h.pr.extend hE)
theorem PA.lt {W w u : World} {R F S : Nat} {l : List Tk} {b : Bool} (h : PA W w u R F S l b) : S < u.heap.size := h.pr.lt
theorem PA.far {W w u u' : World} {R F S : Nat} {l : List Tk} {b : Bool} (h : PA W w u R F S l b) {M : Nat → Prop} (hC : Chg M u u') (hM : ∀ i, M i → S < i) : PA W w u' R F S l b := by
 have h1 := h.hR; have h2 := h.hRF; have h3 := h.hFS; have h4 := h.pr.hS
 exact ⟨h.pr.chg hC (fun e => by have := hM _ e; omega) (fun i e => by have := hM _ e; omega), h.r.chg hC (fun e => by have := hM _ e; omega), h.f.chg hC (fun e => by have := hM _ e; omega), h.ext.trans hC (fun i hi e => by have := hM _ e; omega), h1, h2, h3⟩
structure PB (W w u : World) (R F S N : Nat) (l : List Tk) (b : Bool) (text : ByteArray) (rowN row : Value) (acc : List Nd) : Prop where
 at_ : PA W w u R F S l b
 nd : Blk u N #[.int .i64 1, .string text, .int .i64 0, rowN] 66
 grow : Grow 4 66 VNd (N + 1) u row acc
 hSN : S < N
theorem PB.start {W w u : World} {R F S : Nat} {l : List Tk} {b : Bool} (h : PA W w u R F S l b) (text : ByteArray) :
  PB W w (u.alloc (.cells #[.int .i64 1, .string text, .int .i64 0, .slice none 0 0] 66)) R F S u.heap.size l b text (.slice none 0 0) (.slice none 0 0) [] :=
 ⟨h.extend ((Chg.refl _ _).alloc _), Blk.made _ _ _, Grow.nil _ _ _ _ _, h.lt⟩
theorem PB.lt {W w u : World} {R F S N : Nat} {l : List Tk} {b : Bool} {text : ByteArray} {rowN row : Value} {acc : List Nd} (h : PB W w u R F S N l b text rowN row acc) : N < u.heap.size := h.nd.lt
theorem PB.call {W w u u' : World} {R F S N : Nat} {l l' : List Tk} {b b' : Bool} {text : ByteArray} {rowN row : Value} {acc : List Nd} (h : PB W w u R F S N l b text rowN row acc) (hC : Chg (fun i => i = S) u u') (hP : RdrAt W u' S l' b') :
  PB W w u' R F S N l' b' text rowN row acc := by
 have h3 := h.hSN; exact ⟨h.at_.call hC hP, h.nd.chg hC (by omega), h.grow.chg vnd_keeps hC (fun i hi => by omega), h3⟩
theorem PB.extend {W w u u' : World} {R F S N : Nat} {l : List Tk} {b : Bool} {text : ByteArray} {rowN row : Value} {acc : List Nd} (h : PB W w u R F S N l b text rowN row acc) (hE : Ext u u') : PB W w u' R F S N l b text rowN row acc :=
 h.call (ext_at hE S) (h.at_.pr.extend hE)
theorem PB.slice3 {W w u : World} {R F S N : Nat} {l : List Tk} {b : Bool} {text : ByteArray} {rowN row : Value} {acc : List Nd} (h : PB W w u R F S N l b text rowN row acc) : ∃ a c, row = .slice a acc.length c := by
 obtain ⟨us, _, ho, _⟩ := h.grow.ex; rcases ho.2 with ⟨rfl, h0⟩ | ⟨g, cap, cur, rfl, _⟩
 ·exact ⟨_, _, by rw [h0]⟩
 ·exact ⟨_, _, rfl⟩
theorem PB.own {W w u : World} {R F S N : Nat} {l : List Tk} {b : Bool} {text : ByteArray} {rowN row : Value} {acc : List Nd} (h : PB W w u R F S N l b text rowN row acc) : ∀ i, row.ownBlock = some i → N + 1 ≤ i ∧ i < u.heap.size := by
 obtain ⟨us, _, ho, _⟩ := h.grow.ex; exact fun i e => World.ownsRow.lt ho i e
theorem PB.text {W w u : World} {R F S N : Nat} {l : List Tk} {b : Bool} {text : ByteArray} {rowN row : Value} {acc : List Nd} (h : PB W w u R F S N l b text rowN row acc) (s : ByteArray) : PB W w (u.setCell ⟨N, 1, none⟩ (.string s)) R F S N l b s rowN row acc := by
 have h3 := h.hSN; have hC := chg_set (S := N) (Chg.refl _ u) 1 (.string s); exact ⟨h.at_.far hC (fun i e => by omega), by have := h.nd.set 1 (.string s); exact this, h.grow.chg vnd_keeps hC (fun i e => by omega), h3⟩
theorem PB.more {W w u u' : World} {R F S N : Nat} {l : List Tk} {b : Bool} {text : ByteArray} {rowN row row1 : Value} {acc acc1 : List Nd} (h : PB W w u R F S N l b text rowN row acc) (hG : Grow 4 66 VNd (N + 1) u' row1 acc1) (hC : Chg (fun i => row.ownBlock = some i) u u') :
  PB W w u' R F S N l b text rowN row1 acc1 := by
 have h3 := h.hSN; have ho := h.own; exact ⟨h.at_.far hC (fun i e => by have := ho i e; omega), h.nd.chg hC (fun e => by have := ho _ e; omega), hG, h3⟩
theorem PB.put3 {W w u : World} {R F S N : Nat} {l : List Tk} {b : Bool} {text : ByteArray} {rowN row : Value} {acc : List Nd} (h : PB W w u R F S N l b text rowN row acc) : PB W w (u.setCell ⟨N, 3, none⟩ row) R F S N l b text row row acc := by
 have h3 := h.hSN; have hC := chg_set (S := N) (Chg.refl _ u) 3 row; exact ⟨h.at_.far hC (fun i e => by omega), by have := h.nd.set 3 row; exact this, h.grow.chg vnd_keeps hC (fun i e => by omega), h3⟩
theorem pi_setF2 {w u : World} {R F : Nat} {a b c d f0 f1 : Value} {x : Nd} (h : PI w u R F a b c d f0 f1 x) (g0 g1 : Value) : PI w ((u.setCell ⟨F, 0, none⟩ g0).setCell ⟨F, 1, none⟩ g1) R F a b c d g0 g1 x := by
 have h1 := h.hR; have h2 := h.hRF
 have hC : Chg (fun i => i = F) u ((u.setCell ⟨F, 0, none⟩ g0).setCell ⟨F, 1, none⟩ g1) := chg_set (chg_set (Chg.refl _ _) 0 g0) 1 g1; exact ⟨h.r.chg hC (by omega), (h.f.set 0 g0).set 1 g1, h.ext.trans hC (fun i hi e => by omega), ndAt_chg h.nd hC (fun i e => by omega), h1, h2⟩
theorem pi_setR2 {w u : World} {R F : Nat} {a b c d f0 f1 : Value} {x y : Nd} (h : PI w u R F a b c d f0 f1 x) (a' b' c' d' : Value) (hy : NdAt (hide (below (F + 1)) u) y (.agg #[a', b', c', d'])) : PI w ((((u.setCell ⟨R, 0, none⟩ a').setCell ⟨R, 1, none⟩ b').setCell ⟨R, 2, none⟩ c').setCell ⟨R, 3, none⟩ d') R F a' b' c' d' f0 f1 y := by
 have h1 := h.hR; have h2 := h.hRF
 have hC : Chg (fun i => i = R) u ((((u.setCell ⟨R, 0, none⟩ a').setCell ⟨R, 1, none⟩ b').setCell ⟨R, 2, none⟩ c').setCell ⟨R, 3, none⟩ d') := chg_set (chg_set (chg_set (chg_set (Chg.refl _ _) 0 a') 1 b') 2 c') 3 d'; exact ⟨(((h.r.set 0 a').set 1 b').set 2 c').set 3 d', h.f.chg hC (by omega), h.ext.trans hC (fun i hi e => by omega), ndAt_chg hy hC (fun i e => by omega), h1, h2⟩
theorem PA.pi {W w u : World} {R F S : Nat} {l : List Tk} {b : Bool} (h : PA W w u R F S l b) : PI w u R F (.int .i64 0) (.string ⟨#[]⟩) (.int .i64 0) (.slice none 0 0) (.int .i64 0) (.int .i64 0) zeroN :=
 ⟨h.r, h.f, h.ext, ndAt_leaf _ _ _ _ (by decide), h.hR, h.hRF⟩
structure Low3 (w : World) (R F V : Nat) (c : Int) (a : Nat) (n : Nat) (u : World) : Prop where
 pi : PI w u R F (.int .i64 0) (.string ⟨#[]⟩) (.int .i64 0) (.slice none 0 0) (.int .i64 (if n ≤ 1 then 0 else c)) (.int .i64 (if n ≤ 1 then 0 else (a : Int))) zeroN
 v : Blk u V #[.int .i64 c, .int .i64 (a : Int)] 68
 hFV : F < V
theorem Low3.setR {w u : World} {R F V : Nat} {c : Int} {a : Nat} (h : Low3 w R F V c a 0 u) : Low3 w R F V c a 1 ((((u.setCell ⟨R, 0, none⟩ (.int .i64 0)).setCell ⟨R, 1, none⟩ (.string ⟨#[]⟩)).setCell ⟨R, 2, none⟩ (.int .i64 0)).setCell ⟨R, 3, none⟩ (.slice none 0 0)) := by
 have h1 := h.hFV; have h2 := h.pi.hRF
 exact ⟨h.pi.setR, h.v.chg (chg_set (chg_set (chg_set (chg_set (S := R) (Chg.refl _ _) 0 _) 1 _) 2 _) 3 _) (by omega), h1⟩
theorem Low3.setF {w u : World} {R F V : Nat} {c : Int} {a : Nat} (h : Low3 w R F V c a 1 u) : Low3 w R F V c a 2 ((u.setCell ⟨F, 0, none⟩ (.int .i64 c)).setCell ⟨F, 1, none⟩ (.int .i64 a)) := by
 have h1 := h.hFV; exact ⟨pi_setF2 h.pi _ _, h.v.chg (chg_set (chg_set (S := F) (Chg.refl _ _) 0 _) 1 _) (by omega), h1⟩
structure Low18 (w : World) (R F S q k : Nat) (p : Int) (n : Nat) (u : World) : Prop where
 pi : PI w u R F (.int .i64 0) (.string ⟨#[]⟩) (.int .i64 0) (.slice none 0 0) (.int .i64 (if n ≤ 1 then 0 else 2)) (.int .i64 (if n ≤ 1 then 0 else p)) zeroN
 kc : u.cell? ⟨S, 1, none⟩ = some (.int .i64 (k : Nat))
 lt : S < u.heap.size
 hFS : F < S
 tok : u.cell? ⟨q, k * 3 + 2, none⟩ = some (.int .i64 p)
 tlt : q < u.heap.size
 hq : F < q
theorem Low18.chg {w u u' : World} {R F S q k : Nat} {p : Int} {n m : Nat} (h : Low18 w R F S q k p n u) {M : Nat → Prop} (hC : Chg M u u') (hM : ∀ i, M i → i ≤ F) (hp : PI w u' R F (.int .i64 0) (.string ⟨#[]⟩) (.int .i64 0) (.slice none 0 0) (.int .i64 (if m ≤ 1 then 0 else 2)) (.int .i64 (if m ≤ 1 then 0 else p)) zeroN) : Low18 w R F S q k p m u' := by
 have h1 := h.hFS; have h2 := h.hq
 exact ⟨hp, (hC.cell (p := ⟨S, 1, none⟩) h.lt (fun e => by have := hM _ e; simp only at this; omega)).trans h.kc, Nat.lt_of_lt_of_le h.lt hC.size, h1, (hC.cell (p := ⟨q, k * 3 + 2, none⟩) h.tlt (fun e => by have := hM _ e; simp only at this; omega)).trans h.tok, Nat.lt_of_lt_of_le h.tlt hC.size, h2⟩
theorem Low18.setR {w u : World} {R F S q k : Nat} {p : Int} (h : Low18 w R F S q k p 0 u) : Low18 w R F S q k p 1 ((((u.setCell ⟨R, 0, none⟩ (.int .i64 0)).setCell ⟨R, 1, none⟩ (.string ⟨#[]⟩)).setCell ⟨R, 2, none⟩ (.int .i64 0)).setCell ⟨R, 3, none⟩ (.slice none 0 0)) := by
 have h2 := h.pi.hRF; exact h.chg (chg_set (chg_set (chg_set (chg_set (S := R) (Chg.refl _ _) 0 _) 1 _) 2 _) 3 _) (fun i e => by omega) h.pi.setR
theorem Low18.setF {w u : World} {R F S q k : Nat} {p : Int} (h : Low18 w R F S q k p 1 u) : Low18 w R F S q k p 2 ((u.setCell ⟨F, 0, none⟩ (.int .i64 2)).setCell ⟨F, 1, none⟩ (.int .i64 p)) :=
 h.chg (chg_set (chg_set (S := F) (Chg.refl _ _) 0 _) 1 _) (fun i e => by omega) (pi_setF2 h.pi _ _)
def impQ (m : Nat) (s : ByteArray) (acc : List Nd) (l : List Tk) : Out Nd :=
 if isB l [sImport] = true then (pName l.tail).bind fun p l => (pNeed sSemi l).bind fun _ l => prs m (.imports s (acc ++ [.mk 2 p 0 []])) l
 else prs m (.decls s acc) l
theorem imports_open {n : Nat} {s : ByteArray} {acc : List Nd} {l : List Tk} {b : Bool} {T : Out Nd} (h : stO b l (prs n (.imports s acc) l) = T) (hT : T ≠ .out) : stO b l (impQ (n - 1) s acc l) = T := by
 cases b with
 | true => exact h
 | false =>
  cases n with
  | zero => exact absurd h.symm hT
  | succ n =>
   have h2 : prs (n + 1) (.imports s acc) l = T := h; simp only [prs] at h2; exact h2
theorem fuel_pos {n : Nat} {X : NT} {l : List Tk} {b : Bool} {T : Out Nd} (h : stO b l (prs n X l) = T) (hT : T ≠ .out) (hb : b = false) : 1 ≤ n := by
 subst hb; cases n with
 | zero => exact absurd h.symm hT
 | succ n => omega
theorem decls_open {n : Nat} {s : ByteArray} {acc : List Nd} {l : List Tk} {T : Out Nd} (h : stO false l (prs (n + 1) (.decls s acc) l) = T) : (if l.length = 0 then .got (.mk 1 s 0 acc) l else (prs n .decl l).bind fun x l => prs n (.decls s (acc ++ [x])) l) = T := by
 have h2 : prs (n + 1) (.decls s acc) l = T := h; simp only [prs] at h2; exact h2
theorem decl_any {n : Nat} {W w : World} {S : Nat} {l : List Tk} {b : Bool} (h : RdrAt W w S l b) (hne : stO b l (prs n .decl l) ≠ .out) : Calls Tryz.prog 91 #[.pointer (some ⟨S, 0, none⟩)] w (Rst (VN w.heap.size) W w S (stO b l (prs n .decl l))) :=
 @rc_any n .decl W w S l b _ _ h (fun e => by cases e) (fun e => by cases e) rfl trivial hne
theorem PA.place {W w u : World} {R F S : Nat} {l : List Tk} {b : Bool} (h : PA W w u R F S l b) {p n : Nat} (hW : W.drawn = 20000 * p + n) (hn : n ≤ 10000) : ∃ a c k, Blk u S #[.slice a n c, .int .i64 (k : Nat), .bool b] 160 ∧ k + l.length = n ∧ TksIn W a k l ∧ ∀ b o, a = some ⟨b, o, none⟩ → b = p ∧ o = 0 := by
 obtain ⟨a, m, c, k, hb, h1, ⟨h2, q, h4, h5⟩, h3⟩ := h.pr.ex; obtain ⟨rfl, rfl⟩ : m = n ∧ q = p := by omega
 exact ⟨a, c, k, hb, h1, h3, h5⟩
set_option maxRecDepth 100000 in
set_option maxHeartbeats 8000000 in
theorem rparse_any (s : ByteArray) (w : World) (hs : s.size ≤ 9223372036854775807) :
  Calls Tryz.prog 25 #[.string s] w (ParsePost w (parseR s)) := by
 obtain ⟨Q, hQ⟩ : ∃ Q, parseR s = Q := ⟨_, rfl⟩; rw [hQ]; unfold parseR at hQ; have hz := scan_zero (l := s.data.toList); obtain ⟨T, hT⟩ : ∃ T, scanF s.data.toList = T := ⟨_, rfl⟩; rw [hT] at hQ hz; have HTT := Z_ hT; obtain ⟨ts, c, a⟩ := T; simp only at hQ hz; have HQ := Z_ hQ; have HZ := Z_ hz; obtain ⟨R, hR⟩ : ∃ R, w.heap.size = R := ⟨_, rfl⟩; obtain ⟨F, hF⟩ : ∃ F, R + 1 = F := ⟨_, rfl⟩; have hR0 := (Blk.made w #[.int .i64 0, .string ⟨#[]⟩, .int .i64 0, .slice none 0 0] 66).alloc (.cells #[.int .i64 0, .int .i64 0] 68); have hF0 := Blk.made2 w (.cells #[.int .i64 0, .string ⟨#[]⟩, .int .i64 0, .slice none 0 0] 66) #[.int .i64 0, .int .i64 0] 68; rw [hR] at hR0 hF0; rw [hF] at hF0; have hX0 := ((Chg.refl (fun _ => False) w).alloc (.cells #[.int .i64 0, .string ⟨#[]⟩, .int .i64 0, .slice none 0 0] 66)).alloc (.cells #[.int .i64 0, .int .i64 0] 68)
 have HC := Z_ (fun u => lexTells.rscan_all s u hs (ts, c, a) (Z_ hT)); have hRF : R < F := by omega
 have HR0 := Z_ hR0; have HF0 := Z_ hF0; have HX0 := Z_ hX0; have hsz0 : ((w.alloc (.cells #[.int .i64 0, .string ⟨#[]⟩, .int .i64 0, .slice none 0 0] 66)).alloc (.cells #[.int .i64 0, .int .i64 0] 68)).heap.size = F + 1 := by simp [hR]; omega
 have HS0 := Z_ hsz0; clear hT hQ hR0 hF0 hX0 hz hsz0; go_enter Tryz.func25, Tryz.ntmps25
 go_upto_region 1 with (fail)
 try rw [hF]
 generalize (w.alloc (.cells #[.int .i64 0, .string ⟨#[]⟩, .int .i64 0, .slice none 0 0] 66)).alloc (.cells #[.int .i64 0, .int .i64 0] 68) = u0 at *; go_wp2_with fail
 refine (HC.out _).mono ?_
 rintro e w1 ⟨v, rfl, ho, hE1⟩; have hR1 := HR0.out.ext hE1; have hF1 := HF0.out.ext hE1; have hX1 := HX0.out.ext hE1; have hsz1 : F + 1 ≤ w1.heap.size := by have := HS0.out; have := hE1.size; omega
 have ho1 := ownsRow_ext ho ((Chg.refl (fun _ => False) w1).alloc (.cells #[.int .i64 c, .int .i64 a] 68))
 have hPI1 : PI w (w1.alloc (.cells #[.int .i64 c, .int .i64 a] 68)) R F (.int .i64 0) (.string ⟨#[]⟩) (.int .i64 0) (.slice none 0 0) (.int .i64 0) (.int .i64 0) zeroN :=
  ⟨hR1.alloc _, hF1.alloc _, hX1.alloc _, ndAt_leaf _ _ _ _ (by decide), by omega, hRF⟩
 have HV := Z_ (Blk.made w1 #[.int .i64 c, .int .i64 a] 68); have HPI := Z_ hPI1; have HO := Z_ ho1; obtain ⟨V, hV⟩ : ∃ V, w1.heap.size = V := ⟨_, rfl⟩; have hFV : F < V := by omega
 clear ho ho1 hR1 hF1 hX1 hPI1 hE1 HC HR0 HF0 HX0 hsz1; go_upto_region 2 with (fail)
 rw [hV] at HV
 try rw [hV]
 generalize w1.alloc (.cells #[.int .i64 c, .int .i64 a] 68) = u1 at *; have hc := HV.out.cell; by_cases hc0 : c = 0
 ·subst hc0
  obtain rfl : a = 0 := HZ.out rfl; have hQ2 := HQ.out; rw [if_pos rfl] at hQ2; have HQ2 := Z_ hQ2; obtain ⟨hs3, hok, htl⟩ := synk.scan_tks s ts 0 HTT.out; obtain ⟨ta, tc, rfl, htk, tp, -, htp⟩ := tks_tag HO.out hok; obtain ⟨TN, hTN⟩ : ∃ q, ts.length = q := ⟨_, rfl⟩; rw [hTN] at htl HO; have hTN2 : TN ≤ 10000 := by omega
  clear hQ2 HQ HZ HTT; rw [hTN]; obtain ⟨S, hS⟩ : ∃ S, u1.heap.size = S := ⟨_, rfl⟩; obtain ⟨W, hW⟩ : ∃ W : World, W = { u1 with drawn := 20000 * tp + TN } := ⟨_, rfl⟩; have hWd : W.drawn = 20000 * tp + TN := by rw [hW]
  have hWX : Ext W u1 := by rw [hW]; exact ⟨rfl, rfl, rfl, Nat.le_refl _, fun _ _ _ => rfl⟩
  have hWS : W.heap.size = S := by rw [hW]; exact hS
  have htkW : TksIn W ta 0 (tksOf s ts) := by rw [hW]; intro j hj; obtain ⟨b, o, e, hb, h0⟩ := htk j hj; exact ⟨b, o, e, hb, ⟨h0.c0, h0.c1, h0.c2, h0.ok⟩⟩
  have hPR : RdrAt W (u1.alloc (.cells #[.slice ta TN tc, .int .i64 0, .bool false] 160)) S (tksOf s ts) false := by
   refine ⟨⟨ta, TN, tc, 0, ?_, by simp [tksOf, hTN], ⟨hTN2, tp, hWd, fun b o e => ⟨(htp b o e).1, (htp b o e).2.1⟩⟩, htkW⟩, hWX.alloc _, by omega⟩
   rw [← hS]; exact Blk.made u1 _ _
  have hE2 := (Chg.refl (fun _ => False) u1).alloc (.cells #[.slice ta TN tc, .int .i64 0, .bool false] 160); have HAT : Hid (PA W w (u1.alloc (.cells #[.slice ta TN tc, .int .i64 0, .bool false] 160)) R F S (tksOf s ts) false) := Z_ ⟨hPR, HPI.out.r.ext hE2, HPI.out.f.ext hE2, HPI.out.ext.ext hE2, HPI.out.hR, hRF, by have := HV.out.lt; omega⟩; have hne := synm.prs_in (20 * ts.length + 5) .module (tksOf s ts) (by simp [tksOf, NT.rank]); obtain ⟨n, hn⟩ : ∃ n, 20 * ts.length + 4 = n := ⟨_, rfl⟩; have hn1 : 20 * ts.length + 5 = n + 1 := by omega
  rw [hn1] at hne HQ2; have hL0 : (tksOf s ts).length ≤ 10000 := by simp [tksOf, hTN]; omega
  have hTA : 0 < TN → ta = some ⟨tp, 0, none⟩ ∧ F < tp := by
   intro e; obtain ⟨b, o, h0, -, -⟩ := htk 0 (by simp [tksOf, hTN]; omega); obtain ⟨h1, h2, h3⟩ := htp b o h0; subst h1 h2; exact ⟨h0, by have := HS0.out; omega⟩
  obtain ⟨l, hl⟩ : ∃ l, tksOf s ts = l := ⟨_, rfl⟩; rw [hl] at HAT hne HQ2 hL0; obtain ⟨T, hT⟩ : ∃ T, stO false l (prs (n + 1) .module l) = T := ⟨_, rfl⟩; have hT1 : prs (n + 1) .module l = T := hT; rw [hT1] at HQ2 hne; simp only [prs] at hT; have HT := Z_ hT; have HNE := Z_ hne; have HWD := Z_ hWd; have HTQ := Z_ hTA; clear hPR hne hE2 htk htkW htp hok hT hT1 hn1 hn hl hWd hWX hWS hW hTN hTA HO HPI HS0 htl hs3; go_upto_region 5 with (fail)
  try rw [hS]
  generalize u1.alloc (.cells #[.slice ta TN tc, .int .i64 0, .bool false] 160) = u2 at *; clear hc HV hFV hV; have HB := Z_ (PB.start HAT.out ⟨#[]⟩); obtain ⟨N, hN⟩ : ∃ N, u2.heap.size = N := ⟨_, rfl⟩; rw [hN] at HB; have hSN : S < N := by have := HAT.out.lt; omega
  clear HAT; go_upto_region 6 with (fail)
  generalize u2.alloc (.cells #[.int .i64 1, .string ⟨#[]⟩, .int .i64 0, .slice none 0 0] 66) = v0 at *; have HAT := Z_ HB.out.at_; have HLE : Hid (0 + l.length ≤ 10000) := Z_ (by omega); clear hL0; have HN := Z_ (must_any HAT.out.pr sModule (by decide)); go_wp2_with fail
  refine HN.out.mono ?_
  rintro e u1 ⟨hC, _, _, l1, b1, rfl, rfl, hP, hrel⟩; replace HLE := Z_ (rel_len (q := 0) hrel (fun _ _ hp => by have := synm.need_lt hp; omega) (by intro e; unfold pNeed at e; split at e <;> cases e) (fun _ => HLE.out)); replace HT := Z_ (now_bind HT.out HNE.out hrel); replace HB := Z_ (HB.out.call hC hP); replace HAT := Z_ HB.out.at_; clear hC hP hrel HN; have HN := Z_ (name_any3 HAT.out.pr); go_wp2_with fail
  refine HN.out.mono ?_
  rintro e u2 ⟨hC, s2, v, l2, b2, rfl, ⟨rfl, hss2⟩, hP, hrel⟩; replace HLE := Z_ (rel_len (q := 0) hrel (fun _ _ hp => by have := synm.name_lt hp; omega) (pName_ne _) HLE.out); replace HT := Z_ (now_bind HT.out HNE.out hrel); replace HB := Z_ (HB.out.call hC hP); replace HAT := Z_ HB.out.at_; clear hC hP hrel HN; have n0 := HB.out.nd.cell; have nf := HB.out.nd.frozen; have nl := HB.out.lt; go_upto_region 8 with (fail)
  replace HB := Z_ (HB.out.text s2); clear n0 nf nl; generalize u2.setCell ⟨N, 1, none⟩ (.string s2) = f3 at *; replace HAT := Z_ HB.out.at_; generalize s2 = s0 at *; have HSZ := Z_ hss2; clear hss2; have HN := Z_ (must_any HAT.out.pr sSemi (by decide)); go_wp2_with fail
  refine HN.out.mono ?_
  rintro e u4 ⟨hC, _, _, l4, b4, rfl, rfl, hP, hrel⟩; replace HLE := Z_ (rel_len (q := 0) hrel (fun _ _ hp => by have := synm.need_lt hp; omega) (by intro e; unfold pNeed at e; split at e <;> cases e) HLE.out); replace HT := Z_ (now_bind HT.out HNE.out hrel); replace HB := Z_ (HB.out.call hC hP); replace HAT := Z_ HB.out.at_; clear hC hP hrel HN; go_wp2_with fail
  go_loopg [] n (fun kk wr => ∃ (l2 : List Tk) (b2 : Bool) (acc : List Nd) (row : Value), kk ≤ n ∧ Hid (stO b2 l2 (prs kk (.imports s0 acc) l2) = T) ∧ Hid (PB W w wr R F S N l2 b2 s0 row row acc) ∧ Hid (b2 = false → acc.length + l2.length ≤ 10000) ∧ Hid (acc.length ≤ 10001))
  case atStart => exact ⟨l4, b4, [], .slice none 0 0, Nat.le_refl _, HT, HB, Z_ (fun e => by have := HLE.out e; simpa using this), Z_ (by simp)⟩
  clear HT HB HAT HLE
  case round =>
   obtain ⟨lr, br, acc, row, hkn, HT, HB, HLE, HLN⟩ := hrel; have HAT := Z_ HB.out.at_; have HFP := Z_ (fun e => fuel_pos HT.out HNE.out e); replace HT := Z_ (imports_open HT.out HNE.out); have HT0 := HT.out; clear HT; simp only [impQ] at HT0; have HT := Z_ HT0; clear HT0; have HN := Z_ (eat_any HAT.out.pr sImport (by decide)); have HY := Z_ (fun he => now_eat2 HT.out he); have HO := Z_ (fun he => now_not HT.out he); clear HT; generalize (!br && isB lr [sImport]) = R at *; go_wp2_with fail
   refine HN.out.mono ?_
   rintro e u5 ⟨rfl, hC, hP⟩; cases R with
   | false =>
    replace hP : RdrAt W u5 S lr br := by simpa using hP
    have HT := Z_ (HO.out (by trivial)); replace HB := Z_ (HB.out.call hC hP); replace HAT := Z_ HB.out.at_; clear hC hP HN HY HO; clear HFP; go_wp2_with fail
    go_loopg [] (gk - 1) (fun kk wr => ∃ (l2 : List Tk) (b2 : Bool) (acc : List Nd) (row : Value), kk ≤ n ∧ Hid (stO b2 l2 (prs kk (.decls s0 acc) l2) = T) ∧ Hid (PB W w wr R F S N l2 b2 s0 row row acc) ∧ Hid (b2 = false → acc.length + l2.length ≤ 10000) ∧ Hid (acc.length ≤ 10001))
    case atStart => exact ⟨lr, br, acc, row, by omega, HT, HB, HLE, HLN⟩
    clear HT HB HAT HLE HLN
    case round =>
     obtain ⟨ld, bd, acc, row, hkd, HT, HB, HLE, HLN⟩ := hrel; have HAT := Z_ HB.out.at_; obtain ⟨sa, sc, sk, hSB, hlk, htn, hta2⟩ := HAT.out.place HWD.out hTN2; have c0 := hSB.cell 0; have c1 := hSB.cell 1; have c2 := hSB.cell 2; simp at c0 c1 c2
     have HSB := Z_ hSB; have HTN := Z_ htn; have HT2 := Z_ hta2; clear hSB htn hta2; cases bd with
     | false =>
      cases ld with
      | nil =>
       have hgk := fuel_pos HT.out HNE.out rfl; obtain ⟨m, rfl⟩ : ∃ m, gk = m + 1 := ⟨gk - 1, by omega⟩; have hTT := decls_open HT.out; simp only [List.length_nil, ↓reduceIte] at hTT; subst hTT; clear HT HLE HLN; simp only [List.length_nil, Nat.add_zero] at hlk; subst hlk; have hge : ¬ ((sk : Int) < (sk : Int)) := Int.lt_irrefl _; have hge2 : decide (sk < sk) = false := by simp
       have hge3 : decide ((sk : Int) < (sk : Int)) = false := by simp
       have HPI := Z_ HAT.out.pi; have hND := ndAt_grow (k := 1) (m := 0) (t := s0) HB.out.grow (by have := HSZ.out; omega); have HND := Z_ hND; obtain ⟨ra, rc, hrow⟩ := HB.out.slice3; subst hrow; have n0 := HB.out.nd.cell; have HFI := Z_ (fits_any hND); clear hND; obtain ⟨WF, hWF⟩ : ∃ q, (weighF 16 (Nd.mk 1 s0 0 acc) 0).1 = q := ⟨_, rfl⟩; rw [hWF] at HFI; have HW := Z_ hWF; clear hWF; go_wp2_with fail
       refine HFI.out.mono ?_
       rintro e w5 ⟨rfl, hE5⟩; have HND5 := Z_ (ndAt_keeps (keeps_chg hE5 fun i _ e => e.elim) _ _ HND.out); have HB5 := Z_ (HB.out.extend hE5); have HPI5 := Z_ HB5.out.at_.pi; clear HB HND HPI HFI HAT c0 c1 c2 HSB HTN HT2 n0 hE5; have n0 := HB5.out.nd.cell; have r0 := HPI5.out.r.cell; have rf := HPI5.out.r.frozen; have rl := HPI5.out.r.lt; have f0 := HPI5.out.f.cell; have ff := HPI5.out.f.frozen; have fl := HPI5.out.f.lt; have hSN2 := HB5.out.hSN; have hFS := HB5.out.at_.hFS; cases WF with
       | false =>
        have HQ3 := Z_ (show Q = (zeroN, 1, 0) by have := HQ2.out; simp only [HW.out, ↓reduceIte, Bool.false_eq_true] at this; exact this.symm); have hP6 := pi_setF2 (pi_setR2 HPI5.out (.int .i64 0) (.string ⟨#[]⟩) (.int .i64 0) (.slice none 0 0) (ndAt_leaf _ _ _ _ (by decide) : NdAt _ zeroN _)) (.int .i64 1) (.int .i64 0); have HP6 := Z_ hP6; clear hP6; go_wp2_with fail
        refine bodyPost_ret (results_cc2 rfl _ _ rfl HP6.out.r Tryz.underlying66 rfl (by kernel_rfl) rfl HP6.out.f Tryz.underlying68 rfl (by kernel_rfl)) rfl ?_
        exact HP6.out.post HQ3.out
       | true =>
        have hHN := ndAt_low HND5.out (B2 := F + 1) (by omega); have HQ3 := Z_ (show Q = (.mk 1 s0 0 acc, 0, 0) by have := HQ2.out; simp only [HW.out, ↓reduceIte] at this; exact this.symm); have hP6 := pi_setF2 (pi_setR2 HPI5.out (.int .i64 1) (.string s0) (.int .i64 0) (.slice ra acc.length rc) hHN) (.int .i64 0) (.int .i64 0); have HP6 := Z_ hP6; clear hP6 hHN; go_wp2_with fail
        refine bodyPost_ret (results_cc2 rfl _ _ rfl HP6.out.r Tryz.underlying66 rfl (by kernel_rfl) rfl HP6.out.f Tryz.underlying68 rfl (by kernel_rfl)) rfl ?_
        exact HP6.out.post HQ3.out
      | cons t r =>
       have hgk := fuel_pos HT.out HNE.out rfl; obtain ⟨m, rfl⟩ : ∃ m, gk = m + 1 := ⟨gk - 1, by omega⟩; have hTT := decls_open HT.out; simp only [List.length_cons, Nat.add_one_ne_zero, ↓reduceIte] at hTT; replace HT : Hid (stO false (t :: r) ((prs m .decl (t :: r)).bind fun x l => prs m (.decls s0 (acc ++ [x])) l) = T) := Z_ hTT; clear hTT; have hkn : (sk : Int) < (TN : Int) := by simp only [List.length_cons] at hlk; omega
       have hkn3 : decide (sk < TN) = true := by simp only [List.length_cons] at hlk; simp; omega
       have HNX := Z_ (now_ne HT.out HNE.out); obtain ⟨B, hB⟩ : ∃ B, wr.heap.size = B := ⟨_, rfl⟩; have hNB := HB.out.lt; have HOW := Z_ HB.out.own; rw [hB] at hNB HOW; have HN := Z_ (decl_any HAT.out.pr HNX.out); go_wp2_with fail
       refine HN.out.mono ?_
       rintro e u6 ⟨hC, x6, v6, l6, b6, rfl, hv, hP, hrel⟩; have HLT := Z_ (fun e => rel_lt hrel HNX.out e); replace HT := Z_ (now_bind HT.out HNE.out hrel); replace HB := Z_ (HB.out.call hC hP); replace HAT := Z_ HB.out.at_; obtain ⟨ka6, ta6, ma6, aa6, na6, ca6, rfl⟩ := nd_form hv; have HV6 := Z_ hv; have hsz6 : wr.heap.size ≤ u6.heap.size := hC.size; clear hC hP hrel hv HN c0 c1 c2 HSB HTN HT2; rw [hB] at HV6 hsz6; have HK := Z_ (Kid.start HV6.out hSN hNB (fun i e => (HOW.out i e).2) hsz6 (c := #[.int .i64 ka6, .string ta6, .int .i64 ma6, .slice aa6 na6 ca6]) rfl); have hEx := (Chg.refl (fun _ => False) u6).alloc (.cells #[.int .i64 ka6, .string ta6, .int .i64 ma6, .slice aa6 na6 ca6] 66); replace HB := Z_ (HB.out.extend hEx); replace HAT := Z_ HB.out.at_; clear hEx HOW; obtain ⟨XHK, hXHK⟩ : ∃ X, u6.heap.size = X := ⟨_, rfl⟩; rw [hXHK] at HK
       go_upto_region 15 with (fail)
       generalize u6.alloc (.cells #[.int .i64 ka6, .string ta6, .int .i64 ma6, .slice aa6 na6 ca6] 66) = u9 at *; clear hB hNB hsz6 HV6; have hle := HLE.out (by trivial); simp only [List.length_cons] at hle; clear HAT; obtain ⟨ra, rc, hrow⟩ := HB.out.slice3
       first | subst hrow | (have e1 := (Value.slice.inj hrow).1; have e3 := (Value.slice.inj hrow).2.2; subst e1; subst e3)
       obtain ⟨us, hu1, ho, hu3⟩ := HB.out.grow.ex; have HO := Z_ ho; have HU := Z_ (And.intro hu1 hu3); have HOW := Z_ HB.out.own; clear ho hu1 hu3; have n0 := HB.out.nd.cell; have nf := HB.out.nd.frozen; have nl := HB.out.lt; have kc := HK.out.nd.cell; simp only [Value.cells] at kc; obtain ⟨i0_, hi, hz0, hz1, hz2⟩ := info_split info_node; go_wp2_with (at_builtin; refine wpList_append_lies _ rfl _ _ 35 rfl (N + 1) 66 i0_ (.agg #[.int .i64 0, .string ⟨#[]⟩, .int .i64 0, .slice none 0 0]) 4 56 Tryz.underlying35 hi hz0 hz1 hz2 rfl (by decide) (.slice ra acc.length rc) acc.length (us.flatMap fun u => u.cells.toList) rfl (HO.out.alloc _) ⟨u9.heap.size, 0, none⟩ 1 1 [.int .i64 ka6, .string ta6, .int .i64 ma6, .slice aa6 na6 ca6] rfl rfl (by intro j q hj; have e : (⟨u9.heap.size, 0, none⟩ : Addr).add j = ⟨u9.heap.size, j, none⟩ := (by unfold Addr.add; split <;> simp_all); rw [e, (Blk.made u9 _ _).cell]; simpa using hj) (by intro q hq; simp at hq; rcases hq with rfl | rfl | rfl | rfl <;> rfl) (by decide) (by unfold maxLen; omega) (by omega) (by simp; omega) (u9.heap.size + 1) (by simp) ?_; intro g c' w4 hown hgrow hat hlt1; have HPU := Z_ (pushed HU.out.1 HU.out.2 HK.out.dat hown hgrow hat); have HBN := Z_ (grown_blk hgrow (HB.out.nd.alloc _) (fun e => by have := (HOW.out N e).1; omega)); have q1 := HBN.out.cell; have q1f := HBN.out.frozen; have q1l := HBN.out.lt; clear hown hgrow hat n0 nf nl kc HBN)
       obtain ⟨hG, hC, -⟩ := HPU.out; replace HB := Z_ (HB.out.more hG hC).put3; clear hG hC HPU q1 q1f q1l; go_roundg m
       case rel => exact ⟨l6, b6, (acc ++ [x6]), _, by omega, HT, HB, Z_ (fun e => by have := HLT.out e; simp only [NT.weak, List.length_append, List.length_cons, List.length_nil] at this ⊢; omega), Z_ (by simp only [List.length_append, List.length_singleton]; omega)⟩
       case measure => omega
     | true =>
      have HT0 : Hid (Out.bad ld = T) := Z_ HT.out; have hTT := HT0.out; clear HT HT0; subst hTT; clear HLE HLN; cases ld with
      | nil =>
       have HQ3 := Z_ (show Q = (zeroN, 2, (s.size : Int)) from HQ2.out.symm); simp only [List.length_nil, Nat.add_zero] at hlk; subst hlk; have hge : ¬ ((sk : Int) < (sk : Int)) := Int.lt_irrefl _; have hge2 : decide (sk < sk) = false := by simp
       have hge3 : decide ((sk : Int) < (sk : Int)) = false := by simp
       have HPI := Z_ HAT.out.pi; have r0 := HPI.out.r.cell; have rf := HPI.out.r.frozen; have rl := HPI.out.r.lt; have f0 := HPI.out.f.cell; have ff := HPI.out.f.frozen; have fl := HPI.out.f.lt; have hP6 := pi_setF2 (pi_setR2 HPI.out (.int .i64 0) (.string ⟨#[]⟩) (.int .i64 0) (.slice none 0 0) (ndAt_leaf _ _ _ _ (by decide) : NdAt _ zeroN _)) (.int .i64 2) (.int .i64 (s.size : Nat)); have HP6 := Z_ hP6; clear hP6; go_wp2_with fail
       refine bodyPost_ret (results_cc2 rfl _ _ rfl HP6.out.r Tryz.underlying66 rfl (by kernel_rfl) rfl HP6.out.f Tryz.underlying68 rfl (by kernel_rfl)) rfl ?_
       exact HP6.out.post HQ3.out
      | cons t r =>
       have HQ3 := Z_ (show Q = (zeroN, 2, t.at_) from HQ2.out.symm); have hkn : (sk : Int) < (TN : Int) := by simp only [List.length_cons] at hlk; omega
       have hkn3 : decide (sk < TN) = true := by simp only [List.length_cons] at hlk; simp; omega
       obtain ⟨tq, tz, rfl, hbb, ht⟩ := HTN.out 0 (by simp); obtain ⟨rfl, rfl⟩ := HT2.out _ _ rfl; obtain ⟨hta, hqF⟩ := HTQ.out (by omega); subst hta; have ht2 := ht.c2; have hbW := Nat.lt_of_lt_of_le hbb HAT.out.pr.ext.size; rw [← HAT.out.pr.ext.cell (by exact hbb) id] at ht2; simp only [Nat.zero_add, Nat.add_zero, List.getElem_cons_zero] at ht2; have H18 : Hid (Low18 w R F S tq sk t.at_ 0 wr.drew) := Z_ ⟨HAT.out.pi.drew, HSB.out.cell 1, HSB.out.lt, HAT.out.hFS, ht2, hbW, hqF⟩; go_upto_region 18 with (fail)
       refine wp_region_weave [10, 11] (fun i v _ => v = ([.agg #[.int .i64 0, .string ⟨#[]⟩, .int .i64 0, .slice none 0 0], .slice (some ⟨tq, 0, none⟩) TN tc, .pointer (some ⟨S, 0, none⟩), .pointer (some ⟨S, 0, none⟩), .pointer (some ⟨S, 1, none⟩), .int .i64 (sk : Nat), .pointer (some ⟨tq, sk * 3, none⟩), .pointer (some ⟨tq, sk * 3 + 2, none⟩), .int .i64 t.at_, .agg #[.int .i64 2, .int .i64 t.at_], undef, undef] : List Value).getD i undef) (fun vs u => Low18 w R F S tq sk t.at_ vs.length u) (fun _ _ => True) (frame := ?frab) (fun x => ?hfab) mixed (by kernel_rfl) (by kernel_rfl) (fun _ _ _ _ h _ => h) ?h0b ?stb ?finb
       case hfab =>
        simp only [chain.frameOf, chain.fill, chain.setOpt, chain.dstOf, List.size_toArray, List.length_cons, List.length_nil, List.getElem?_toArray, List.getElem?_cons_succ, List.getElem?_cons_zero, List.setIfInBounds_toArray, List.set_cons_succ, List.set_cons_zero]; exact rfl
       case h0b => exact H18.out
       case stb =>
        refine AllFrom.cons (fun x vs u hF hm hb hd K' hK' => ?sb0) (AllFrom.cons (fun x vs u hF hm hb hd K' hK' => ?sb1) (AllFrom.cons (fun x vs u hF hm hb hd K' hK' => ?sb2) (AllFrom.cons (fun x vs u hF hm hb hd K' hK' => ?sb3) (AllFrom.cons (fun x vs u hF hm hb hd K' hK' => ?sb4) (AllFrom.cons (fun x vs u hF hm hb hd K' hK' => ?sb5) (AllFrom.cons (fun x vs u hF hm hb hd K' hK' => ?sb6) (AllFrom.cons (fun x vs u hF hm hb hd K' hK' => ?sb7) (AllFrom.cons (fun x vs u hF hm hb hd K' hK' => ?sb8) (AllFrom.cons (fun x vs u hF hm hb hd K' hK' => ?sb9) (AllFrom.cons (fun x vs u hF hm hb hd K' hK' => ?sb10) (AllFrom.cons (fun x vs u hF hm hb hd K' hK' => ?sb11) (AllFrom.nil))))))))))))
        case sb0 =>
         have HF := Z_ hF; clear hd hm hb hF; go_simp; exact hK'.out _ _ _ (rfl) trivial ⟨rfl, HF.out⟩
        case sb1 =>
         have HF := Z_ hF; clear hd hm hb hF; go_simp; exact hK'.out _ _ _ (rfl) trivial ⟨rfl, HF.out⟩
        case sb2 =>
         have HF := Z_ hF; clear hd hm hb hF; go_simp; exact hK'.out _ _ _ (rfl) trivial ⟨rfl, HF.out⟩
        case sb3 =>
         have y0 := hd 2 (by decide) (by kernel_rfl); replace y0 : x 79 = .pointer (some ⟨S, 0, none⟩) := y0; have HF := Z_ hF; clear hd hm hb hF; go_simp; exact hK'.out _ _ _ (by simp only [y0]; rfl) trivial ⟨rfl, HF.out⟩
        case sb4 =>
         have y0 := hd 3 (by decide) (by kernel_rfl); replace y0 : x 80 = .pointer (some ⟨S, 0, none⟩) := y0; have HF := Z_ hF; clear hd hm hb hF; go_simp; exact hK'.out _ _ _ (by simp only [y0]; rfl) trivial ⟨rfl, HF.out⟩
        case sb5 =>
         have hc := hF.kc; have y0 := hd 4 (by decide) (by kernel_rfl); replace y0 : x 81 = .pointer (some ⟨S, 1, none⟩) := y0; have HF := Z_ hF; clear hd hm hb hF; go_simp; exact hK'.out _ _ _ (by simp only [y0]; rfl) trivial ⟨rfl, HF.out⟩
        case sb6 =>
         have hkb : (sk : Int) < (TN : Int) := hkn; have y0 := hd 1 (by decide) (by kernel_rfl); replace y0 : x 78 = .slice (some ⟨tq, 0, none⟩) TN tc := y0; have y1 := hd 5 (by decide) (by kernel_rfl); replace y1 : x 82 = .int .i64 (sk : Nat) := y1; have HF := Z_ hF; clear hd hm hb hF; go_simp; exact hK'.out _ _ _ (by simp only [y0, y1]; rfl) trivial ⟨rfl, HF.out⟩
        case sb7 =>
         have y0 := hd 6 (by decide) (by kernel_rfl); replace y0 : x 83 = .pointer (some ⟨tq, sk * 3, none⟩) := y0; have HF := Z_ hF; clear hd hm hb hF; go_simp; exact hK'.out _ _ _ (by simp only [y0]; rfl) trivial ⟨rfl, HF.out⟩
        case sb8 =>
         have hc := hF.tok; have y0 := hd 7 (by decide) (by kernel_rfl); replace y0 : x 84 = .pointer (some ⟨tq, sk * 3 + 2, none⟩) := y0; have HF := Z_ hF; clear hd hm hb hF; go_simp; exact hK'.out _ _ _ (by simp only [y0]; rfl) trivial ⟨rfl, HF.out⟩
        case sb9 =>
         have y0 := hd 8 (by decide) (by kernel_rfl); replace y0 : x 85 = .int .i64 t.at_ := y0; have HF := Z_ hF; clear hd hm hb hF; go_simp; exact hK'.out _ _ _ (by simp only [y0]; rfl) trivial ⟨rfl, HF.out⟩
        case sb10 =>
         obtain rfl := List.eq_nil_of_length_eq_zero (hm 0 (by kernel_rfl)); have y0 := hd 0 (by decide) (by kernel_rfl); replace y0 : x 77 = .agg #[.int .i64 0, .string ⟨#[]⟩, .int .i64 0, .slice none 0 0] := y0; have hq := hF.pi.r.cell; have hf := hF.pi.r.frozen; have hl := hF.pi.r.lt; have HF := Z_ hF; clear hd hm hb hF; go_simp; exact hK'.out _ _ undef (by simp only [y0]; rfl) trivial HF.out.setR
        case sb11 =>
         obtain ⟨v0, rfl⟩ : ∃ v0, vs = [v0] := by match vs, hm 1 (by kernel_rfl) with | [v0], _ => exact ⟨_, rfl⟩
         have y0 := hd 9 (by decide) (by kernel_rfl); replace y0 : x 86 = .agg #[.int .i64 2, .int .i64 t.at_] := y0; have hq := hF.pi.f.cell; have hf := hF.pi.f.frozen; have hl := hF.pi.f.lt; have HF := Z_ hF; clear hd hm hb hF; go_simp; exact hK'.out _ _ undef (by simp only [y0]; rfl) trivial HF.out.setF
       case finb =>
        intro x vs w9 hl hF hk; obtain ⟨v0, v1, rfl⟩ : ∃ v0 v1, vs = [v0, v1] := by match vs, hl with | [v0, v1], _ => exact ⟨_, _, rfl⟩
        have HP9 := Z_ hF.pi; clear hk hl hF; go_wp2_with fail
        refine bodyPost_ret (results_cc2 rfl _ _ rfl HP9.out.r Tryz.underlying66 rfl (by kernel_rfl) rfl HP9.out.f Tryz.underlying68 rfl (by kernel_rfl)) rfl ?_
        exact HP9.out.post HQ3.out
   | true =>
    obtain ⟨hbf, HT0⟩ := HY.out (by trivial)
    first | subst hbf | clear hbf
    replace hP : RdrAt W u5 S lr.tail false := by simpa using hP
    have HT := Z_ (HT0 lr.tail); replace HB := Z_ (HB.out.call hC hP); replace HAT := Z_ HB.out.at_; clear hC hP HN HY HO HT0; have hgk := HFP.out rfl; have hle := HLE.out (by trivial); replace HLE : Hid (acc.length + lr.tail.length ≤ 10000) := Z_ (by simp only [List.length_tail]; omega); clear HFP; have HN := Z_ (name_any3 HAT.out.pr); go_wp2_with fail
    refine HN.out.mono ?_
    rintro e u6 ⟨hC, s6, v, l6, b6, rfl, ⟨rfl, hss6⟩, hP, hrel⟩; replace HLE := Z_ (rel_len (q := 1) hrel (fun _ _ hp => by have := synm.name_lt hp; omega) (pName_ne _) (fun _ => HLE.out)); replace HT := Z_ (now_bind HT.out HNE.out hrel); replace HB := Z_ (HB.out.call hC hP); replace HAT := Z_ HB.out.at_; clear hC hP hrel HN; have HN := Z_ (must_any HAT.out.pr sSemi (by decide)); go_wp2_with fail
    refine HN.out.mono ?_
    rintro e u7 ⟨hC, _, _, l7, b7, rfl, rfl, hP, hrel⟩; replace HLE := Z_ (rel_len (q := 0) hrel (fun _ _ hp => by have := synm.need_lt hp; omega) (by intro e; unfold pNeed at e; split at e <;> cases e) HLE.out); replace HT := Z_ (now_bind HT.out HNE.out hrel); replace HB := Z_ (HB.out.call hC hP); replace HAT := Z_ HB.out.at_; clear hC hP hrel HN; have hle2 := HLN.out; obtain ⟨ra, rc, hrow⟩ := HB.out.slice3; subst hrow; obtain ⟨us, hu1, ho, hu3⟩ := HB.out.grow.ex; have HO := Z_ ho; have HU := Z_ (And.intro hu1 hu3); have HOW := Z_ HB.out.own; clear ho hu1 hu3; have n0 := HB.out.nd.cell; have nf := HB.out.nd.frozen; have nl := HB.out.lt; obtain ⟨i0_, hi, hz0, hz1, hz2⟩ := info_split info_node; have HKD := Z_ (ndAt_leaf (hide (rowHid (N + 1) (.slice ra acc.length rc)) u7) 2 0 s6 (by omega)); go_wp2_with (at_builtin; refine wpList_append_lies _ rfl _ _ 35 rfl (N + 1) 66 i0_ (.agg #[.int .i64 0, .string ⟨#[]⟩, .int .i64 0, .slice none 0 0]) 4 56 Tryz.underlying35 hi hz0 hz1 hz2 rfl (by decide) (.slice ra acc.length rc) acc.length (us.flatMap fun u => u.cells.toList) rfl (HO.out.alloc _) ⟨u7.heap.size, 0, none⟩ 1 1 [.int .i64 2, .string s6, .int .i64 0, .slice none 0 0] rfl rfl (by intro j q hj; have e : (⟨u7.heap.size, 0, none⟩ : Addr).add j = ⟨u7.heap.size, j, none⟩ := (by unfold Addr.add; split <;> simp_all); rw [e, (Blk.made u7 _ _).cell]; simpa using hj) (by intro q hq; simp at hq; rcases hq with rfl | rfl | rfl | rfl <;> rfl) (by decide) (by unfold maxLen; omega) (by omega) (by simp; omega) (u7.heap.size + 1) (by simp) ?_; intro g c' w4 hown hgrow hat hlt1; have HPU := Z_ (pushed HU.out.1 HU.out.2 HKD.out hown hgrow hat); have HBN := Z_ (grown_blk hgrow (HB.out.nd.alloc _) (fun e => by have := (HOW.out N e).1; omega)); have q1 := HBN.out.cell; have q1f := HBN.out.frozen; have q1l := HBN.out.lt; clear hown hgrow hat n0 nf nl HBN)
    obtain ⟨hG, hC, -⟩ := HPU.out; replace HB := Z_ (HB.out.more hG hC).put3; clear hG hC HPU q1 q1f q1l; go_roundg (gk - 1)
    case rel => exact ⟨l7, b7, acc ++ [.mk 2 s6 0 []], _, by omega, HT, HB, Z_ (fun e => by have := HLE.out e; simp only [List.length_append, List.length_singleton]; omega), Z_ (by simp only [List.length_append, List.length_singleton]; omega)⟩
    case measure => omega
 ·have HQ2 := Z_ (show Q = (zeroN, c, (a : Int)) by have := HQ.out; rw [if_neg hc0] at this; exact this.symm)
  have hcn : (c != 0) = true := by simpa using hc0
  clear HQ HZ; go_upto_region 3 with (fail)
  refine wp_region_weave [2, 3] (fun i v _ => v = ([.agg #[.int .i64 0, .string ⟨#[]⟩, .int .i64 0, .slice none 0 0], .agg #[.int .i64 c, .int .i64 a], undef, undef] : List Value).getD i undef) (fun vs u => Low3 w R F V c a vs.length u) (fun _ _ => True) (frame := ?fraa) (fun x => ?hfaa) mixed (by kernel_rfl) (by kernel_rfl) (fun _ _ _ _ h _ => h) ?h0a ?sta ?fina
  case hfaa =>
   simp only [chain.frameOf, chain.fill, chain.setOpt, chain.dstOf, List.size_toArray, List.length_cons, List.length_nil, List.getElem?_toArray, List.getElem?_cons_succ, List.getElem?_cons_zero, List.setIfInBounds_toArray, List.set_cons_succ, List.set_cons_zero]; exact rfl
  case h0a => exact (show Low3 w R F V c a 0 _ from ⟨HPI.out.drew, HV.out.drew, hFV⟩)
  case sta =>
   refine AllFrom.cons (fun x vs u hF hm hb hd K' hK' => ?sa0) (AllFrom.cons (fun x vs u hF hm hb hd K' hK' => ?sa1) (AllFrom.cons (fun x vs u hF hm hb hd K' hK' => ?sa2) (AllFrom.cons (fun x vs u hF hm hb hd K' hK' => ?sa3) (AllFrom.nil))))
   case sa0 =>
    have HF := Z_ hF; clear hd hm hb hF; go_simp; exact hK'.out _ _ _ (rfl) trivial ⟨rfl, HF.out⟩
   case sa1 =>
    have hc := hF.v.cell; have HF := Z_ hF; clear hd hm hb hF; go_simp; exact hK'.out _ _ _ (rfl) trivial ⟨rfl, HF.out⟩
   case sa2 =>
    obtain rfl := List.eq_nil_of_length_eq_zero (hm 0 (by kernel_rfl)); have y0 := hd 0 (by decide) (by kernel_rfl); replace y0 : x 18 = .agg #[.int .i64 0, .string ⟨#[]⟩, .int .i64 0, .slice none 0 0] := y0; have hq := hF.pi.r.cell; have hf := hF.pi.r.frozen; have hl := hF.pi.r.lt; have HF := Z_ hF; clear hd hm hb hF; go_simp; exact hK'.out _ _ undef (by simp only [y0]; rfl) trivial HF.out.setR
   case sa3 =>
    obtain ⟨v0, rfl⟩ : ∃ v0, vs = [v0] := by match vs, hm 1 (by kernel_rfl) with | [v0], _ => exact ⟨_, rfl⟩
    have y0 := hd 1 (by decide) (by kernel_rfl); replace y0 : x 19 = .agg #[.int .i64 c, .int .i64 a] := y0; have hq := hF.pi.f.cell; have hf := hF.pi.f.frozen; have hl := hF.pi.f.lt; have HF := Z_ hF; clear hd hm hb hF; go_simp; exact hK'.out _ _ undef (by simp only [y0]; rfl) trivial HF.out.setF
  case fina =>
   intro x vs w9 hl hF hk; obtain ⟨v0, v1, rfl⟩ : ∃ v0 v1, vs = [v0, v1] := by match vs, hl with | [v0, v1], _ => exact ⟨_, _, rfl⟩
   have HP9 := Z_ hF.pi; clear hk hl hF; go_wp2_with fail
   refine bodyPost_ret (results_cc2 rfl _ _ rfl HP9.out.r Tryz.underlying66 rfl (by kernel_rfl) rfl HP9.out.f Tryz.underlying68 rfl (by kernel_rfl)) rfl ?_
   exact HP9.out.post HQ2.out
end synr
end Go.Proofs.YtpcihajmcejliabGreatDoor
namespace Go.Proofs.YtpcihajmcejliabGreatDoor
open Go.RowKit
namespace syntaxParses
open synw synr
theorem hide_none (w : World) : Keeps w (hide (fun _ => false) w) := ⟨by rw [hide_size]; exact Nat.le_refl _, fun p u hp => by rw [hide_cell (fun _ => false) w p rfl]; exact hp⟩
theorem ndAt_hide0 {w : World} {x : Nd} {v : Value} (h : NdAt w x v) : NdAt (hide (fun _ => false) w) x v := ndAt_keeps (hide_none w) _ _ h
set_option maxRecDepth 100000 in
set_option maxHeartbeats 2000000 in
theorem walk (s : ByteArray) (w : World) (hs : s.size ≤ 9223372036854775807) (hv : ErrVar w) (hm : MaxVar w) :
  Calls Tryz.prog 6 #[.string s] w fun e w' => e = .returned (.bool true) ∧ Ext w w' := by
 have C1 := Z_ (parse_any s w hs hv hm); have C2 := Z_ (fun w => rparse_any s w hs); obtain ⟨Q, hQ⟩ : ∃ Q, parseR s = Q := ⟨_, rfl⟩; rw [hQ] at C1 C2; obtain ⟨x, c, a⟩ := Q; clear hQ hv hm; go_enter Tryz.func6, Tryz.ntmps6
 go_wp2_with fail
 refine C1.out.mono ?_
 rintro e w1 ⟨hE1, v1, rfl, hn1⟩; obtain ⟨k1, t1, m1, a1, l1, c1, rfl⟩ := nd_form hn1; have hE2 := (hE1.alloc (.cells #[.int .i64 k1, .string t1, .int .i64 m1, .slice a1 l1 c1] 66)).alloc (.cells #[.int .i64 c, .int .i64 a] 68); have HA := Z_ ((Blk.made w1 #[.int .i64 k1, .string t1, .int .i64 m1, .slice a1 l1 c1] 66).alloc (.cells #[.int .i64 c, .int .i64 a] 68)); have HF := Z_ (Blk.made2 w1 (.cells #[.int .i64 k1, .string t1, .int .i64 m1, .slice a1 l1 c1] 66) #[.int .i64 c, .int .i64 a] 68); have HN := Z_ (ndAt_keeps (keeps_chg (M := fun _ => false) (((Chg.refl (fun _ => False) w1).alloc (.cells #[.int .i64 k1, .string t1, .int .i64 m1, .slice a1 l1 c1] 66)).alloc (.cells #[.int .i64 c, .int .i64 a] 68)) (fun i _ e => e.elim)) x _ (ndAt_hide0 hn1)); have HE2 := Z_ hE2; obtain ⟨P, hP⟩ : ∃ P, w1.heap.size = P := ⟨_, rfl⟩
 rw [hP] at HA HF; clear hE1 hE2 hn1 C1; go_upto_region 2 with (fail)
 try rw [hP]
 generalize (w1.alloc (.cells #[.int .i64 k1, .string t1, .int .i64 m1, .slice a1 l1 c1] 66)).alloc (.cells #[.int .i64 c, .int .i64 a] 68) = u1 at *; go_wp2_with fail
 refine (C2.out _).mono ?_
 rintro e w2 ⟨hE3, v2, rfl, hn2⟩; obtain ⟨k2, t2, m2, a2, l2, c2, rfl⟩ := nd_form hn2; have hX := ((Chg.refl (fun _ => False) w2).alloc (.cells #[.int .i64 k2, .string t2, .int .i64 m2, .slice a2 l2 c2] 66)).alloc (.cells #[.int .i64 c, .int .i64 a] 68); have HA2 := Z_ ((HA.out.ext hE3).ext hX); have HF2 := Z_ ((HF.out.ext hE3).ext hX); have HB := Z_ ((Blk.made w2 #[.int .i64 k2, .string t2, .int .i64 m2, .slice a2 l2 c2] 66).alloc (.cells #[.int .i64 c, .int .i64 a] 68)); have HG := Z_ (Blk.made2 w2 (.cells #[.int .i64 k2, .string t2, .int .i64 m2, .slice a2 l2 c2] 66) #[.int .i64 c, .int .i64 a] 68); have HN2 := Z_ (ndAt_keeps (keeps_chg (M := fun _ => false) (hE3.ext hX) (fun i _ e => e.elim)) x _ HN.out); have HM2 := Z_ (ndAt_keeps (keeps_chg (M := fun _ => false) hX (fun i _ e => e.elim)) x _ (ndAt_hide0 hn2))
 have HE4 := Z_ ((HE2.out.ext hE3).ext hX); obtain ⟨R, hR⟩ : ∃ R, w2.heap.size = R := ⟨_, rfl⟩; rw [hR] at HB HG; clear hE3 hX hn2 C2 HA HF HN HE2; go_upto_region 3 with (fail)
 try rw [hR]
 generalize (w2.alloc (.cells #[.int .i64 k2, .string t2, .int .i64 m2, .slice a2 l2 c2] 66)).alloc (.cells #[.int .i64 c, .int .i64 a] 68) = u2 at *; have q1 := HA2.out.cell; have q2 := HF2.out.cell; have q3 := HB.out.cell; have q4 := HG.out.cell; have C3 := Z_ (same_any x _ _ u2 _ _ HN2.out HM2.out); go_wp2_with fail
 refine C3.out.mono ?_
 rintro e w3 ⟨rfl, hE5⟩; go_wp2_with fail
 go_ret
 exact ⟨rfl, HE4.out.ext hE5⟩
end syntaxParses
end Go.Proofs.YtpcihajmcejliabGreatDoor
namespace Go.Proofs.YtpcihajmcejliabGreatDoor
open Go.RowKit
namespace ofo
open synw ofp ofd
structure OA (w u : World) (R F N V : Nat) (fc nc : Array Value) (z0 z1 c a : Int) : Prop where
 ext : Ext w u
 rf : Blk u R fc 52
 rz : Blk u F #[.int .i64 z0, .int .i64 z1] 68
 nb : Blk u N nc 66
 vb : Blk u V #[.int .i64 c, .int .i64 a] 68
 hw : w.heap.size ≤ R
 hRF : R < F
 hFN : F < N
 hNV : N < V
theorem OA.extend {w u u' : World} {R F N V : Nat} {fc nc : Array Value} {z0 z1 c a : Int} (h : OA w u R F N V fc nc z0 z1 c a) (hE : Ext u u') : OA w u' R F N V fc nc z0 z1 c a :=
 ⟨h.ext.ext hE, h.rf.ext hE, h.rz.ext hE, h.nb.ext hE, h.vb.ext hE, h.hw, h.hRF, h.hFN, h.hNV⟩
theorem OA.setF {w u : World} {R F N V : Nat} {fc nc : Array Value} {z0 z1 c a : Int} (h : OA w u R F N V fc nc z0 z1 c a) : OA w ((u.setCell ⟨F, 0, none⟩ (.int .i64 c)).setCell ⟨F, 1, none⟩ (.int .i64 a)) R F N V fc nc c a c a := by
 have h1 := h.hw; have h2 := h.hRF; have h3 := h.hFN; have h4 := h.hNV
 have hC := chg_set (chg_set (S := F) (Chg.refl _ u) 0 (.int .i64 c)) 1 (.int .i64 a); exact ⟨h.ext.trans hC (fun i hi e => by omega), h.rf.chg hC (by omega), (h.rz.set 0 _).set 1 _, h.nb.chg hC (by omega), h.vb.chg hC (by omega), h1, h2, h3, h4⟩
theorem OA.setR {w u : World} {R F N V : Nat} {p q r : Value} {nc : Array Value} {z0 z1 c a : Int} (h : OA w u R F N V #[p, q, r] nc z0 z1 c a) (p' q' r' : Value) : OA w (((u.setCell ⟨R, 0, none⟩ p').setCell ⟨R, 1, none⟩ q').setCell ⟨R, 2, none⟩ r') R F N V #[p', q', r'] nc z0 z1 c a := by
 have h1 := h.hw; have h2 := h.hRF; have h3 := h.hFN; have h4 := h.hNV
 have hC := chg_set (chg_set (chg_set (S := R) (Chg.refl _ u) 0 p') 1 q') 2 r'; exact ⟨h.ext.trans hC (fun i hi e => by omega), ((h.rf.set 0 _).set 1 _).set 2 _, h.rz.chg hC (by omega), h.nb.chg hC (by omega), h.vb.chg hC (by omega), h1, h2, h3, h4⟩
theorem results_c1c {P : Program} {fn : Func} {p m q : Tmp} {ty ty2 : TypeId} (h : fn.results = #[.cell p ty, .tmp m, .cell q ty2]) (tmps : Array Value) (w : World) {g g2 : Nat} {T T2 : TypeId} {cs cs2 : Array Value} {d d2 : TypeDesc}
  (hp : tmps.getD p undef = .pointer (some ⟨g, 0, none⟩)) (hg : Blk w g cs T) (hu : P.underlying ty = some d) (hd : (match d with | .struct _ | .array _ _ => true | _ => false) = true) (hi : (P.info? ty).map (·.size) = some cs.size)
  (hq : tmps.getD q undef = .pointer (some ⟨g2, 0, none⟩)) (hg2 : Blk w g2 cs2 T2) (hu2 : P.underlying ty2 = some d2) (hd2 : (match d2 with | .struct _ | .array _ _ => true | _ => false) = true) (hi2 : (P.info? ty2).map (·.size) = some cs2.size) {v : Value} (hm : tmps.getD m undef = v) :
  (results fn tmps).run P w = .ok (.tuple #[.agg cs, v, .agg cs2]) w := by
 have hp' : tmps[p]?.getD undef = .pointer (some ⟨g, 0, none⟩) := by simpa using hp
 have hq' : tmps[q]?.getD undef = .pointer (some ⟨g2, 0, none⟩) := by simpa using hq
 have hm' : tmps[m]?.getD undef = v := by simpa using hm
 simp [results, h, hp', hq', hm', asAddr, run_loadVar_row w g T ty cs (0, 0) d hg hu hd hi, run_loadVar_row w g2 T2 ty2 cs2 (0, 0) d2 hg2 hu2 hd2 hi2]
theorem noRow_at (w : World) : RowAt 1 StrIn [] (.slice none 0 0) w := ⟨none, 0, rfl, Nat.le_refl _, by decide, fun j h => (by cases h)⟩
def OC (w : World) (R F N V : Nat) (nc : Array Value) (c a : Int) (f : FFace) (is : List ByteArray) : List Value → World → Prop
 | [], u => OA w u R F N V #[.string ⟨#[]⟩, .slice none 0 0, .slice none 0 0] nc 0 0 c a
 | [vf], u => OA w u R F N V #[.string ⟨#[]⟩, .slice none 0 0, .slice none 0 0] nc 0 0 c a ∧ FaceAt (hide (below (V + 1)) u) f vf
 | [vf, vi], u => OA w u R F N V #[.string ⟨#[]⟩, .slice none 0 0, .slice none 0 0] nc 0 0 c a ∧ FaceAt (hide (below (V + 1)) u) f vf ∧ RowAt 1 StrIn is vi (hide (below (V + 1)) u)
 | [vf, vi, _], u => OA w u R F N V vf.cells nc 0 0 c a ∧ FaceAt (hide (below (V + 1)) u) f vf ∧ RowAt 1 StrIn is vi (hide (below (V + 1)) u)
 | [vf, vi, _, vi2], u => vi2 = vi ∧ OA w u R F N V vf.cells nc 0 0 c a ∧ FaceAt (hide (below (V + 1)) u) f vf ∧ RowAt 1 StrIn is vi (hide (below (V + 1)) u)
 | [vf, vi, _, vi2, _], u => vi2 = vi ∧ OA w u R F N V vf.cells nc c a c a ∧ FaceAt (hide (below (V + 1)) u) f vf ∧ RowAt 1 StrIn is vi (hide (below (V + 1)) u)
 | _, _ => False
theorem OC.any {w : World} {R F N V : Nat} {nc : Array Value} {c a : Int} {f : FFace} {is : List ByteArray} {vs : List Value} {u : World} (h : OC w R F N V nc c a f is vs u) : ∃ fc z0 z1, OA w u R F N V fc nc z0 z1 c a := by
 match vs, h with
 | [], h => exact ⟨_, _, _, h⟩
 | [_], h => exact ⟨_, _, _, h.1⟩
 | [_, _], h => exact ⟨_, _, _, h.1⟩
 | [_, _, _], h => exact ⟨_, _, _, h.1⟩
 | [_, _, _, _], h => exact ⟨_, _, _, h.2.1⟩
 | [_, _, _, _, _], h => exact ⟨_, _, _, h.2.1⟩
end ofo
end Go.Proofs.YtpcihajmcejliabGreatDoor
