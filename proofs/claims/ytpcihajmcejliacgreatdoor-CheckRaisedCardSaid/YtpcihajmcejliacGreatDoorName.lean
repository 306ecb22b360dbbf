/- Nodes and tokens in plain Lean, how they lie in memory, and what the parser comes to. The parser in plain Lean: what is read makes the rest shorter. The walk of the program's parser: peek, fail, is, have, need, name, whole, label, node, number. The walks of syntax.IsName and of the reference's Name. -/
import Derived.Test.YtpcihajmcejliacGreatDoorProg
import Derived.WalkKit
import Derived.WalkSpells
import Derived.Deep.RegionHeld3
import Derived.BigQuiet
import Derived.Deep.QuietTactic
import Derived.StillTailTactics
import Derived.Deep.CutBlock
import Derived.Deep.DeepCutAuto
import Derived.Test.YtpcihajmcejliacGreatDoorLexNum
import Derived.Test.YtpcihajmcejliacGreatDoorNameMath
namespace Go.Proofs.YtpcihajmcejliacGreatDoor
open Go.RowKit
inductive Nd where
 | mk (kind:Int) (text:ByteArray) (num:Int) (kids:List Nd)
def Nd.kids:Nd→List Nd
 | .mk _ _ _ l=>l
theorem Nd.oD (k:Int) (t:ByteArray) (m:Int) (l:List Nd) (j:Nat) (h:j<l.length):SizeOf.sizeOf l[j]<SizeOf.sizeOf (Nd.mk k t m l):=by
 have h1:=List.sizeOf_lt_of_mem (List.getElem_mem h);have h2:SizeOf.sizeOf (Nd.mk k t m l)=1+SizeOf.sizeOf k+SizeOf.sizeOf t+SizeOf.sizeOf m+SizeOf.sizeOf l:=by simp
 omega
theorem gz {P:Nd→Prop} (h:∀ k t m l,(∀ x∈l,P x)→P (.mk k t m l)):∀ x,P x:=by
 have:∀ n x,SizeOf.sizeOf x≤n→P x:=by
  intro n;induction n with
  | zero=>
   intro x hx;cases x;simp at hx
  | succ n ih=>
   intro x hx;cases x with
   | mk k t m l=>
    refine h k t m l fun y hy=>ih y ?_
    obtain⟨j,hj,rfl⟩:=List.getElem_of_mem hy;have:=Nd.oD k t m l j hj;omega
 exact fun x=>this _ x (Nat.le_refl _)
def ij (w:World):Nd→Value→Prop
 | .mk k t m l,v=>∃ a c,v=.agg #[.int .i64 k,.string t,.int .i64 m,.slice a l.length c]∧l.length≤c∧c≤maxLen∧t.size≤10000∧
   ∀ (j:Nat) (h:j<l.length),∃ b o,a=some ⟨b,o,none⟩∧b<w.heap.size∧∃ u,ij w l[j] u∧u.cells.size=4∧∀ i,i<4→w.cell? ⟨b,o+j*4+i,none⟩=u.cells[i]?
 termination_by x=>SizeOf.sizeOf x
 decreasing_by exact Nd.oD k t m l j h
def RP (w:World) (b o:Nat) (x:Nd):Prop:=∃ u,ij w x u∧u.cells.size=4∧∀ i,i<4→w.cell? ⟨b,o+i,none⟩=u.cells[i]?
theorem dY (w:World) (k:Int) (t:ByteArray) (m:Int) (l:List Nd) (v:Value):ij w (.mk k t m l) v↔∃ a c,v=.agg #[.int .i64 k,.string t,.int .i64 m,.slice a l.length c]∧l.length≤c∧c≤maxLen∧t.size≤10000∧fN 4 RP w a l:=by
 rw [ij];exact Iff.rfl
theorem aQ {w w':World} (hk:gh w w'):∀ x v,ij w x v→ij w' x v:=by
 refine gz fun k t m l ih v h=>?_
 rw [dY] at h ⊢;obtain⟨a,c,e,h1,h2,h3,h4⟩:=h;refine⟨a,c,e,h1,h2,h3,fun j hj=>?_⟩
 obtain⟨b,o,ea,hb,u,hu,hs,hc⟩:=h4 j hj;refine⟨b,o,ea,Nat.lt_of_lt_of_le hb hk.1,u,ih _ (List.getElem_mem hj) _ hu,hs,fun i hi=>?_⟩
 have h5:u.cells[i]? = some (u.cells[i]'(by omega)):=Array.getElem?_eq_getElem (by omega);rw [h5];exact hk.2 _ _ ((hc i hi).trans h5)
def Jk (x:Nd) (v:Value) (w:World):Prop:=ij w x v
theorem gJ (x:Nd) (u:Value) (w w':World) (hk:gh w w') (h:Jk x u w):Jk x u w':=aQ hk x u h
theorem b_ {w:World} {x:Nd} {v:Value} (h:ij w x v):∃ a b c d,v=.agg #[a,b,c,d]∧v.cells=#[a,b,c,d]∧a.oneCell'=true∧b.oneCell'=true∧c.oneCell'=true∧d.oneCell'=true:=by
 cases x with
 | mk k t m l=>
  rw [dY] at h;obtain⟨a,c,rfl,-⟩:=h;exact⟨_,_,_,_,rfl,rfl,rfl,rfl,rfl,rfl⟩
theorem gY {w:World} {x:Nd} {v:Value} (h:ij w x v):v.cells.size=4:=by
 obtain⟨a,b,c,d,-,e,-⟩:=b_ h;rw [e];rfl
theorem U_ (w:World) (b o:Nat) (x:Nd) (u:Value) (h:Jk x u w) (hs:u.cells.size=4) (hc:∀ i,i<4→w.cell? ⟨b,o+i,none⟩=u.cells[i]?):RP w b o x:=⟨u,h,hs,hc⟩
theorem jd {w w':World} (hk:gh w w') (b o:Nat) (x:Nd) (h:RP w b o x):RP w' b o x:=by
 obtain⟨u,hu,hs,hc⟩:=h;refine⟨u,aQ hk _ _ hu,hs,fun i hi=>?_⟩
 have h5:u.cells[i]? = some (u.cells[i]'(by omega)):=Array.getElem?_eq_getElem (by omega);rw [h5];exact hk.2 _ _ ((hc i hi).trans h5)
theorem sN {w w':World} {B:Nat} {x:Nd} {v:Value} (h:ij (hide (below B) w) x v) {S:Nat→Prop} (hC:aB S w w') (hS:∀ i,S i→i<B):ij (hide (below B) w') x v:=
 aQ (aN hC fun i _ hs=>by simp [below,hS i hs]) _ _ h
theorem BI {w:World} {B B2:Nat} {x:Nd} {v:Value} (h:ij (hide (below B) w) x v) (hB:B2≤B):ij (hide (below B2) w) x v:=
 aQ (bJ (Nat.le_refl _) fun i hi hm=>by
  simp only [below,decide_eq_false_iff_not] at hm ⊢;exact⟨by omega,trivial⟩) _ _ h
theorem DZ {w:World} {B:Nat} {k m:Int} {t:ByteArray} {v:Value} {l:List Nd} (h:Grow 4 24 Jk B w v l) (ht:t.size≤10000):ij (hide (below B) w) (.mk k t m l) (.agg #[.int .i64 k,.string t,.int .i64 m,v]):=by
 obtain⟨a,c,rfl,h1,h2,h3⟩:=h.row (In:=RP) gJ U_;rw [dY];exact⟨a,c,rfl,h1,h2,ht,h3⟩
theorem oH (w:World) (k m:Int) (t:ByteArray) (ht:t.size≤10000):ij w (.mk k t m []) (.agg #[.int .i64 k,.string t,.int .i64 m,.slice none 0 0]):=by
 rw [dY];exact⟨none,0,rfl,Nat.le_refl _,by decide,ht,fun j h=>by cases h⟩
structure Tk where
 kind:Int
 text:ByteArray
 at_:Int
structure mQ (t:Tk):Prop where
 kinds:1≤t.kind∧t.kind≤3
 size:t.text.size≤3000
 word:t.kind=1→kT t.text.data.toList=true
 num:t.kind=2→pI t.text.data.toList=true∧t.text.data.toList≠[]∧decFrom 0 t.text.data.toList<9223372036854775808
 sign:t.kind=3→kT t.text.data.toList=false
structure av_ (w:World) (b o:Nat) (t:Tk):Prop where
 c0:w.cell? ⟨b,o,none⟩=some (.int .i64 t.kind)
 c1:w.cell? ⟨b,o+1,none⟩=some (.string t.text)
 c2:w.cell? ⟨b,o+2,none⟩=some (.int .i64 t.at_)
 ok:mQ t
def H7 (w:World) (a:Option Addr) (k:Nat) (l:List Tk):Prop:=∀ (j:Nat) (h:j<l.length),∃ b o,a=some ⟨b,o,none⟩∧b<w.heap.size∧av_ w b (o+(k+j)*3) l[j]
theorem H7.tail {w:World} {a:Option Addr} {k:Nat} {t:Tk} {r:List Tk} (h:H7 w a k (t::r)):H7 w a (k+1) r:=fun j hj=>by
 have:=h (j+1) (by simpa using hj);rw [show k+1+j=k+(j+1) by omega];exact this
structure bW (W w:World) (S E:Nat) (l:List Tk):Prop where
 ex:∃ a n c k,aJ w S #[.slice a n c,.int .i64 (k:Nat),.int .i64 (E:Nat)] 108∧k+l.length=n∧n≤10000∧H7 W a k l
 ext:Ext W w
 hS:W.heap.size≤S
theorem bW.aU {W w w':World} {S E:Nat} {l:List Tk} (h:bW W w S E l) {M:Nat→Prop} (hE:aB M w w') (hn:¬ M S) (hM:∀ i,M i→W.heap.size≤i):bW W w' S E l:=by
 obtain⟨a,n,c,k,hb,h1,h2,h3⟩:=h.ex;exact⟨⟨a,n,c,k,hb.aU hE hn,h1,h2,h3⟩,h.ext.trans hE (fun i hi hm=>by have:=hM i hm;omega),h.hS⟩
theorem bW.extend {W w w':World} {S E:Nat} {l:List Tk} (h:bW W w S E l) (hE:Ext w w'):bW W w' S E l:=h.aU hE id fun _ h=>h.elim
theorem bW.alloc {W w:World} {S E:Nat} {l:List Tk} (h:bW W w S E l) (o:Obj):bW W (w.alloc o) S E l:=h.extend ((aB.refl _ _).alloc o)
theorem bW.lt {W w:World} {S E:Nat} {l:List Tk} (h:bW W w S E l):S<w.heap.size:=by obtain⟨a,n,c,k,hb,-⟩:=h.ex;exact hb.lt
theorem bW.Fh {W w:World} {S E:Nat} {l:List Tk} (h:bW W w S E l) {p:Addr} (hp:p.block≠S) (hW:W.heap.size≤p.block) (u:Value):bW W (w.setCell p u) S E l:=
 h.aU ((aB.refl (fun i=>i=p.block) w).setCell (fun _=>rfl) _) (fun e=>hp e.symm) (fun i hi=>by omega)
inductive Out (α : Type) where
 | out
 | bad (l:List Tk)
 | got (x:α) (l:List Tk)
def Out.bind {α β : Type} (o:Out α) (f:α→List Tk→Out β):Out β:=match o with
 | .out=>.out
 | .bad l=>.bad l
 | .got x l=>f x l
theorem Out.bI {α β : Type} {o:Out α} {f:α→List Tk→Out β} {T:Out β} (h:o.bind f=T) (hT:T≠.out):o≠.out:=by
 rintro rfl;exact hT h.symm
theorem Out.aH {α β : Type} {o:Out α} {f:α→List Tk→Out β} {T:Out β} {l:List Tk} (h:o.bind f=T) (ho:o=.bad l):T=.bad l:=by
 subst ho;exact h.symm
theorem Out.aI {α β : Type} {o:Out α} {f:α→List Tk→Out β} {T:Out β} {x:α} {l:List Tk} (h:o.bind f=T) (ho:o=.got x l):f x l=T:=by
 subst ho;exact h
def posOf (E:Nat):List Tk→Int
 | []=>E
 | t::_=>t.at_
def kindOf:List Tk→Int
 | []=>0
 | t::_=>t.kind
def textOf:List Tk→ByteArray
 | []=>⟨#[]⟩
 | t::_=>t.text
def eY (l:List Tk) (ws:List ByteArray):Bool:=match l with
 | []=>false
 | t::_=>decide (t.kind≠2)&&(ws.any fun s=>decide (t.text=s))
def uO:ByteArray:=⟨#[46]⟩
def aW:ByteArray:=⟨#[59]⟩
def fL:ByteArray:=⟨#[44]⟩
def Ai:ByteArray:=⟨#[61]⟩
def dh:ByteArray:=⟨#[40]⟩
def aV:ByteArray:=⟨#[41]⟩
def ov:ByteArray:=⟨#[91]⟩
def lN:ByteArray:=⟨#[93]⟩
def r_:ByteArray:=⟨#[123]⟩
def qg:ByteArray:=⟨#[125]⟩
def pO:ByteArray:=⟨#[45]⟩
def Ac:ByteArray:=⟨#[33]⟩
def pF:ByteArray:=⟨#[104,105,103,104]⟩
def rI:ByteArray:=⟨#[108,111,119]⟩
def TZ:ByteArray:=⟨#[100,111]⟩
def T_:ByteArray:=⟨#[105,102]⟩
def nI:ByteArray:=⟨#[101,108,115,101]⟩
def tY:ByteArray:=⟨#[119,104,105,108,101]⟩
def EH:ByteArray:=⟨#[111,117,116]⟩
def Uy:ByteArray:=⟨#[105,110]⟩
def oN:ByteArray:=⟨#[114,101,116,117,114,110]⟩
def nK:ByteArray:=⟨#[109,111,100,117,108,101]⟩
def kz:ByteArray:=⟨#[105,109,112,111,114,116]⟩
def rL:ByteArray:=⟨#[112,117,98]⟩
def qh:ByteArray:=⟨#[112,114,111,99]⟩
def iJ:ByteArray:=⟨#[103,105,118,101,115]⟩
def aF:ByteArray:=⟨#[]⟩
def dU (s:ByteArray) (l:List Tk):Out Unit:=if eY l [s]=true then .got () l.tail else .bad l
def fP:List Tk→Out ByteArray
 | []=>.bad []
 | t::r=>if t.kind=1∧lH.contains t.text.data.toList=false then .got t.text r else .bad (t::r)
def iO (l:List Tk):Out ByteArray:=(fP l).bind fun s l=>if eY l [uO]=true then (fP l.tail).bind fun t l=>.got (s++(uO++t)) l else .got s l
def dJ (l:List Tk):Out Int:=if eY l [pF]=true then .got 1 l.tail else (dU rI l).bind fun _ l=>.got 0 l
def valOf (s:ByteArray):Int:=(decFrom 0 s.data.toList:Nat)
def gu:List Tk→Out Nd
 | []=>.bad []
 | t::r=>if t.kind=2 then .got (.mk 15 aF (valOf t.text) []) r else .bad (t::r)
def lI (s:ByteArray):Int×Int:=
 if s=⟨#[61,61]⟩ then (9,0) else if s=⟨#[60]⟩ then (8,0) else if s=⟨#[43]⟩ then (1,1) else if s=⟨#[45]⟩ then (2,1) else if s=⟨#[124]⟩ then (7,1)
 else if s=⟨#[42]⟩ then (3,2) else if s=⟨#[47]⟩ then (4,2) else if s=⟨#[37]⟩ then (5,2) else if s=⟨#[38]⟩ then (6,2) else (0,-1)
inductive NT where
 | expr|bound (k:Nat)|loop (k:Nat) (x:Nd)|unary|asked|place (s:ByteArray)|call (s:ByteArray)|args (s:ByteArray) (acc:List Nd)
 | block|stats (acc:List Nd)|stat|decl|proc (pub:Int)|params (s:ByteArray) (pub:Int) (acc:List Nd)|module|imports (s:ByteArray) (acc:List Nd)|decls (s:ByteArray) (acc:List Nd)
def nC (x:Nd) (l:List Tk):Out Nd:=(dU aW l).bind fun _ l=>.got x l
def bn:Nat→NT→List Tk→Out Nd
 | 0,_,_=>.out
 | n+1,.expr,l=>bn n (.bound 0) l
 | n+1,.bound k,l=>if 2<k then bn n .unary l else (bn n (.bound (k+1)) l).bind fun x l=>bn n (.loop k x) l
 | n + 1, .loop k x, l => if kindOf l = 3 ∧ (lI (textOf l)).2 = k then
       (bn n (.bound (k+1)) l.tail).bind fun y r=>if k=0 then .got (.mk 19 aF (lI (textOf l)).1 [x,y]) r else bn n (.loop k (.mk 19 aF (lI (textOf l)).1 [x,y])) r
   else .got x l
 | n+1,.unary,l=>
   if eY l [pO]=true then (bn n .unary l.tail).bind fun x r=>.got (.mk 20 aF 0 [x]) r
   else if eY l [Ac]=true then (bn n .unary l.tail).bind fun x r=>.got (.mk 21 aF 0 [x]) r
   else if eY l [dh]=true then bn n .asked l
   else if kindOf l=2 then gu l
   else (iO l).bind fun s l=>if eY l [dh]=true then bn n (.call s) l else bn n (.place s) l
 | n+1,.asked,l=>(dU dh l).bind fun _ l=>(bn n .expr l).bind fun x l=>(dU aV l).bind fun _ l=>.got x l
 | n+1,.place s,l=>if eY l [ov]=true then (bn n .expr l.tail).bind fun x l=>(dU lN l).bind fun _ l=>.got (.mk 17 s 0 [x]) l else .got (.mk 16 s 0 []) l
 | n+1,.call s,l=>(dU dh l).bind fun _ l=>bn n (.args s []) l
 | n+1,.args s acc,l=>
   if eY l [aV]=true∧acc.length=0 then (dU aV l).bind fun _ l=>.got (.mk 18 s 0 acc) l
   else (bn n .expr l).bind fun x l=>if eY l [fL]=true then bn n (.args s (acc ++ [x])) l.tail else (dU aV l).bind fun _ l=>.got (.mk 18 s 0 (acc ++ [x])) l
 | n+1,.block,l=>(dU r_ l).bind fun _ l=>bn n (.stats []) l
 | n+1,.stats acc,l=>if eY l [qg]=true then .got (.mk 6 aF 0 acc) l.tail else (bn n .stat l).bind fun x l=>bn n (.stats (acc ++ [x])) l
 | n+1,.stat,l=>
   if eY l [rI,pF]=true then (dJ l).bind fun b l=>(fP l).bind fun s l=>(dU Ai l).bind fun _ l=>(bn n .expr l).bind fun x l=>nC (.mk 7 s b [x]) l
   else if eY l [TZ]=true then (iO l.tail).bind fun s l=>(bn n (.call s) l).bind fun x l=>nC (.mk 9 aF 0 [x]) l
   else if eY l [T_]=true then (bn n .asked l.tail).bind fun x l=>(bn n .block l).bind fun b l=>
    if eY l [nI]=true then (bn n .block l.tail).bind fun c l=>.got (.mk 10 aF 0 [x,b,c]) l else .got (.mk 10 aF 0 [x,b]) l
   else if eY l [tY]=true then (bn n .asked l.tail).bind fun x l=>(bn n .block l).bind fun b l=>.got (.mk 11 aF 0 [x,b]) l
   else if eY l [EH]=true then (dJ l.tail).bind fun b l=>(bn n .expr l).bind fun x l=>nC (.mk 12 aF b [x]) l
   else if eY l [Uy]=true then (dJ l.tail).bind fun b l=>(iO l).bind fun s l=>(bn n (.place s) l).bind fun x l=>nC (.mk 13 aF b [x]) l
   else if eY l [oN]=true then (bn n .expr l.tail).bind fun x l=>nC (.mk 14 aF 0 [x]) l
   else (iO l).bind fun s l=>(bn n (.place s) l).bind fun x l=>(dU Ai l).bind fun _ l=>(bn n .expr l).bind fun y l=>nC (.mk 8 aF 0 [x,y]) l
 | n+1,.decl,l=>
   let pub:Int:=if eY l [rL]=true then 2 else 0
   let l:=if eY l [rL]=true then l.tail else l
   if eY l [qh]=true then bn n (.proc pub) l.tail
   else (dJ l).bind fun b l=>(fP l).bind fun s l=>
    if eY l [ov]=true then (gu l.tail).bind fun x l=>(dU lN l).bind fun _ l=>nC (.mk 3 s (b+pub) [x]) l else nC (.mk 3 s (b+pub) []) l
 | n+1,.proc pub,l=>(fP l).bind fun s l=>(dU dh l).bind fun _ l=>bn n (.params s pub []) l
 | n+1,.params s pub acc,l=>
   let done:List Nd→List Tk→Out Nd:=fun acc l=>(dU aV l).bind fun _ l=>(dJ l).bind fun b l=>
    if eY l [iJ]=true then (dJ l.tail).bind fun g l=>(bn n .block l).bind fun x l=>.got (.mk 4 s (pub+b+(4+4*g)) (acc ++ [x])) l
    else (bn n .block l).bind fun x l=>.got (.mk 4 s (pub+b) (acc ++ [x])) l
   if eY l [aV]=true∧acc.length=0 then done acc l
   else (dJ l).bind fun b l=>(fP l).bind fun p l=>if eY l [fL]=true then bn n (.params s pub (acc ++ [.mk 5 p b []])) l.tail else done (acc ++ [.mk 5 p b []]) l
 | n+1,.module,l=>(dU nK l).bind fun _ l=>(fP l).bind fun s l=>(dU aW l).bind fun _ l=>bn n (.imports s []) l
 | n+1,.imports s acc,l=>
   if eY l [kz]=true then (fP l.tail).bind fun p l=>(dU aW l).bind fun _ l=>bn n (.imports s (acc ++ [.mk 2 p 0 []])) l
   else bn n (.decls s acc) l
 | n+1,.decls s acc,l=>if l.length=0 then .got (.mk 1 s 0 acc) l else (bn n .decl l).bind fun x l=>bn n (.decls s (acc ++ [x])) l
namespace bH
def OL (p:Int):List PanicEntry:=[{ v:=.iface 105 (.agg #[.int .i64 p]),recovered:=false }]
def gU {α : Type} (V:α→Value→World→Prop) (W w:World) (S E:Nat) (T:Out α) (e:Ending) (w':World):Prop:=
 aB (fun i=>i=S) w w'∧match T with
  | .out=>True
  | .bad l=>e=.panicked (OL (posOf E l))
  | .got x l=>∃ v,e=.returned v∧V x v w'∧bW W w' S E l
theorem gU.cases {α : Type} {V:α→Value→World→Prop} {W w:World} {S E:Nat} {T:Out α} {e:Ending} {w':World} (h:gU V W w S E T e w') (hT:T≠.out) :
  aB (fun i=>i=S) w w'∧((∃ l,T=.bad l∧e=.panicked (OL (posOf E l)))∨∃ x l v,T=.got x l∧e=.returned v∧V x v w'∧bW W w' S E l):=by
 obtain⟨h1,h2⟩:=h;refine⟨h1,?_⟩
 cases T with
 | out=>exact(hT rfl).elim
 | bad l=>exact .inl ⟨l,rfl,h2⟩
 | got x l=>obtain⟨v,h3⟩:=h2;exact .inr ⟨x,l,v,rfl,h3⟩
theorem gU.fails {α : Type} {V:α→Value→World→Prop} {W w:World} {S E:Nat} {w':World} (h:aB (fun i=>i=S) w w') {T:Out α} {l:List Tk} (hr:T=.bad l):gU V W w S E T (.panicked (OL (posOf E l))) w':=by
 subst hr;exact⟨h,rfl⟩
theorem gU.reads {α : Type} {V:α→Value→World→Prop} {W w:World} {S E:Nat} {w':World} (h:aB (fun i=>i=S) w w') {T:Out α} {x:α} {l:List Tk} (hr:T=.got x l) {v:Value} (hV:V x v w') (hR:bW W w' S E l):gU V W w S E T (.returned v) w':=by
 subst hr;exact⟨h,v,rfl,hV,hR⟩
def ae9 (s:ByteArray) (v:Value) (_:World):Prop:=v=.string s∧s.size≤7000
def ae_ (b:Int) (v:Value) (_:World):Prop:=v=.int .i64 b∧0≤b∧b≤1
def af0 (_:Unit) (v:Value) (_:World):Prop:=v=.tuple #[]
end bH
end Go.Proofs.YtpcihajmcejliacGreatDoor
namespace Go.Proofs.YtpcihajmcejliacGreatDoor
open Go.RowKit
def NT.weak:NT→Nat
 | .loop _ _=>0
 | .imports _ _=>0
 | .decls _ _=>0
 | .place _=>0
 | _=>1
namespace bZ
theorem ag {α β : Type} {o:Out α} {f:α→List Tk→Out β} {x:β} {r:List Tk} (h:o.bind f=.got x r):∃ y l,o=.got y l∧f y l=.got x r:=by
 cases o with
 | out=>cases h
 | bad l=>cases h
 | got y l=>exact⟨y,l,rfl,h⟩
theorem bg {l:List Tk} {ws:List ByteArray} (h:eY l ws=true):l.tail.length<l.length:=by
 cases l with
 | nil=>cases h
 | cons t r=>simp
theorem bz {s:ByteArray} {l r:List Tk} {u:Unit} (h:dU s l=.got u r):r.length<l.length:=by
 unfold dU at h;split at h
 ·rename_i h1
  injection h with _ h2
  subst h2;exact bg h1
 ·cases h
theorem jR {l r:List Tk} {s:ByteArray} (h:fP l=.got s r):r.length<l.length:=by
 cases l with
 | nil=>cases h
 | cons t q=>
  simp only [fP] at h;split at h
  ·injection h with _ h2
   subst h2;simp
  ·cases h
theorem vX {l r:List Tk} {x:Nd} (h:gu l=.got x r):r.length<l.length:=by
 cases l with
 | nil=>cases h
 | cons t q=>
  simp only [gu] at h;split at h
  ·injection h with _ h2
   subst h2;simp
  ·cases h
theorem jG {l r:List Tk} {s:ByteArray} (h:iO l=.got s r):r.length<l.length:=by
 unfold iO at h;obtain⟨y,q,h1,h2⟩:=ag h;have:=jR h1;split at h2
 ·rename_i hb
  obtain⟨z,q2,h3,h4⟩:=ag h2;have:=jR h3;have:=bg hb;injection h4 with _ h5
  subst h5;omega
 ·injection h2 with _ h5
  subst h5;omega
theorem fQ {l r:List Tk} {b:Int} (h:dJ l=.got b r):r.length<l.length:=by
 unfold dJ at h;split at h
 ·rename_i hb
  injection h with _ h5
  subst h5;exact bg hb
 ·obtain⟨z,q2,h3,h4⟩:=ag h
  have:=bz h3;injection h4 with _ h5
  subst h5;omega
theorem qP {l r:List Tk} {x y:Nd} (h:nC x l=.got y r):r.length<l.length:=by
 unfold nC at h;obtain⟨z,q2,h3,h4⟩:=ag h;have:=bz h3;injection h4 with _ h5
 subst h5;omega
theorem jS {x y:Nd} {l r:List Tk} (h:Out.got x l=Out.got y r):r.length=l.length:=by injection h with _ h;rw [h]
theorem LU {l:List Tk} (h:kindOf l=3):l.tail.length<l.length:=by
 cases l with
 | nil=>simp [kindOf] at h
 | cons t r=>simp
theorem fM:∀ (n:Nat) (X:NT) (l:List Tk) (x:Nd) (r:List Tk),bn n X l=.got x r→r.length+X.weak≤l.length:=by
 intro n;induction n with
 | zero=>intro X l x r h;cases X<;>cases h
 | succ n ih=>
  intro X l x r h;cases X with
  | expr=>
   simp only [bn] at h;have:=ih _ _ _ _ h;exact this
  | bound k=>
   simp only [bn] at h;split at h
   ·have:=ih _ _ _ _ h
    exact this
   ·obtain⟨y,q,h1,h2⟩:=ag h
    have a:=ih _ _ _ _ h1;have b:=ih _ _ _ _ h2;simp only [NT.weak] at a b ⊢;omega
  | loop k z=>
   simp only [bn] at h;split at h
   ·rename_i hk
    have:=LU hk.1;obtain⟨y,q,h1,h2⟩:=ag h;have a:=ih _ _ _ _ h1;split at h2
    ·have b:=jS h2
     simp only [NT.weak] at a ⊢;omega
    ·have b:=ih _ _ _ _ h2
     simp only [NT.weak] at a b ⊢;omega
   ·have b:=jS h
    simp only [NT.weak];omega
  | unary=>
   simp only [bn] at h;simp only [NT.weak];split at h
   ·rename_i hb
    have:=bg hb;obtain⟨y,q,h1,h2⟩:=ag h;have a:=ih _ _ _ _ h1;have b:=jS h2;simp only [NT.weak] at a;omega
   ·split at h
    ·rename_i hb
     have:=bg hb;obtain⟨y,q,h1,h2⟩:=ag h;have a:=ih _ _ _ _ h1;have b:=jS h2;simp only [NT.weak] at a;omega
    ·split at h
     ·have a:=ih _ _ _ _ h
      exact a
     ·split at h
      ·have:=vX h;omega
      ·obtain⟨y,q,h1,h2⟩:=ag h
       have:=jG h1;split at h2
       ·have b:=ih _ _ _ _ h2
        simp only [NT.weak] at b;omega
       ·have b:=ih _ _ _ _ h2
        simp only [NT.weak] at b;omega
  | asked=>
   simp only [bn] at h;simp only [NT.weak];obtain⟨y,q,h1,h2⟩:=ag h;have:=bz h1;obtain⟨y2,q2,h3,h4⟩:=ag h2;have a:=ih _ _ _ _ h3;obtain⟨y3,q3,h5,h6⟩:=ag h4;have:=bz h5;have:=jS h6;omega
  | place s=>
   simp only [bn] at h;simp only [NT.weak];split at h
   ·rename_i hb
    have:=bg hb;obtain⟨y2,q2,h3,h4⟩:=ag h;have a:=ih _ _ _ _ h3;obtain⟨y3,q3,h5,h6⟩:=ag h4;have:=bz h5;have:=jS h6;omega
   ·have:=jS h
    omega
  | call s=>
   simp only [bn] at h;simp only [NT.weak];obtain⟨y,q,h1,h2⟩:=ag h;have:=bz h1;have a:=ih _ _ _ _ h2;omega
  | args s acc=>
   simp only [bn] at h;simp only [NT.weak];split at h
   ·obtain⟨y3,q3,h5,h6⟩:=ag h
    have:=bz h5;have:=jS h6;omega
   ·obtain⟨y,q,h1,h2⟩:=ag h
    have a:=ih _ _ _ _ h1;split at h2
    ·rename_i hb
     have:=bg hb;have b:=ih _ _ _ _ h2;simp only [NT.weak] at a b;omega
    ·obtain⟨y3,q3,h5,h6⟩:=ag h2
     have:=bz h5;have:=jS h6;simp only [NT.weak] at a;omega
  | block=>
   simp only [bn] at h;simp only [NT.weak];obtain⟨y,q,h1,h2⟩:=ag h;have:=bz h1;have a:=ih _ _ _ _ h2;omega
  | stats acc=>
   simp only [bn] at h;simp only [NT.weak];split at h
   ·rename_i hb
    have:=bg hb;have:=jS h;omega
   ·obtain⟨y,q,h1,h2⟩:=ag h
    have a:=ih _ _ _ _ h1;have b:=ih _ _ _ _ h2;simp only [NT.weak] at a b;omega
  | stat=>
   simp only [bn] at h;simp only [NT.weak];split at h
   ·obtain⟨y1,q1,h1,h2⟩:=ag h
    have:=fQ h1;obtain⟨y3,q3,h3,h4⟩:=ag h2;have:=jR h3;obtain⟨y5,q5,h5,h6⟩:=ag h4;have:=bz h5;obtain⟨y7,q7,h7,h8⟩:=ag h6;have a:=ih _ _ _ _ h7;have:=qP h8;omega
   split at h
   ·rename_i hb
    have:=bg hb;obtain⟨y1,q1,h1,h2⟩:=ag h;have:=jG h1;obtain⟨y7,q7,h7,h8⟩:=ag h2;have a:=ih _ _ _ _ h7;have:=qP h8;omega
   split at h
   ·rename_i hb
    have:=bg hb;obtain⟨y1,q1,h1,h2⟩:=ag h;have a:=ih _ _ _ _ h1;obtain⟨y3,q3,h3,h4⟩:=ag h2;have b:=ih _ _ _ _ h3;split at h4
    ·rename_i hb
     have:=bg hb;obtain⟨y5,q5,h5,h6⟩:=ag h4;have c:=ih _ _ _ _ h5;have:=jS h6;omega
    ·have:=jS h4
     omega
   split at h
   ·rename_i hb
    have:=bg hb;obtain⟨y1,q1,h1,h2⟩:=ag h;have a:=ih _ _ _ _ h1;obtain⟨y3,q3,h3,h4⟩:=ag h2;have b:=ih _ _ _ _ h3;have:=jS h4;omega
   split at h
   ·rename_i hb
    have:=bg hb;obtain⟨y1,q1,h1,h2⟩:=ag h;have:=fQ h1;obtain⟨y7,q7,h7,h8⟩:=ag h2;have a:=ih _ _ _ _ h7;have:=qP h8;omega
   split at h
   ·rename_i hb
    have:=bg hb;obtain⟨y1,q1,h1,h2⟩:=ag h;have:=fQ h1;obtain⟨y3,q3,h3,h4⟩:=ag h2;have:=jG h3;obtain⟨y7,q7,h7,h8⟩:=ag h4;have a:=ih _ _ _ _ h7;have:=qP h8;omega
   split at h
   ·rename_i hb
    have:=bg hb;obtain⟨y7,q7,h7,h8⟩:=ag h;have a:=ih _ _ _ _ h7;have:=qP h8;omega
   ·obtain⟨y1,q1,h1,h2⟩:=ag h
    have:=jG h1;obtain⟨y3,q3,h3,h4⟩:=ag h2;have a:=ih _ _ _ _ h3;obtain⟨y5,q5,h5,h6⟩:=ag h4;have:=bz h5;obtain⟨y7,q7,h7,h8⟩:=ag h6;have b:=ih _ _ _ _ h7;have:=qP h8;omega
  | decl=>
   simp only [bn] at h;simp only [NT.weak]
   obtain⟨l2,hl2,hle⟩:∃ l2,(if eY l [rL]=true then l.tail else l)=l2∧l2.length≤l.length:=by
    refine⟨_,rfl,?_⟩
    split
    ·rename_i hb;have:=bg hb;omega
    ·exact Nat.le_refl _
   rw [hl2] at h;split at h
   ·rename_i hb
    have:=bg hb;have a:=ih _ _ _ _ h;simp only [NT.weak] at a;omega
   ·obtain⟨y1,q1,h1,h2⟩:=ag h
    have:=fQ h1;obtain⟨y3,q3,h3,h4⟩:=ag h2;have:=jR h3;split at h4
    ·rename_i hb
     have:=bg hb;obtain⟨y5,q5,h5,h6⟩:=ag h4;have:=vX h5;obtain⟨y7,q7,h7,h8⟩:=ag h6;have:=bz h7;have:=qP h8;omega
    ·have:=qP h4
     omega
  | proc pub=>
   simp only [bn] at h;simp only [NT.weak];obtain⟨y1,q1,h1,h2⟩:=ag h;have:=jR h1;obtain⟨y3,q3,h3,h4⟩:=ag h2;have:=bz h3;have a:=ih _ _ _ _ h4;omega
  | params s pub acc=>
   simp only [NT.weak]
   have done:∀ (acc:List Nd) (l:List Tk),((dU aV l).bind fun _ l=>(dJ l).bind fun b l=>
     if eY l [iJ]=true then (dJ l.tail).bind fun g l=>(bn n .block l).bind fun x l=>.got (.mk 4 s (pub+b+(4+4*g)) (acc ++ [x])) l
     else (bn n .block l).bind fun x l=>.got (.mk 4 s (pub+b) (acc ++ [x])) l)=.got x r→r.length+1≤l.length:=by
    intro acc l h;obtain⟨y1,q1,h1,h2⟩:=ag h;have:=bz h1;obtain⟨y3,q3,h3,h4⟩:=ag h2;have:=fQ h3;split at h4
    ·rename_i hb
     have:=bg hb;obtain⟨y5,q5,h5,h6⟩:=ag h4;have:=fQ h5;obtain⟨y7,q7,h7,h8⟩:=ag h6;have a:=ih _ _ _ _ h7;have:=jS h8;omega
    ·obtain⟨y7,q7,h7,h8⟩:=ag h4
     have a:=ih _ _ _ _ h7;have:=jS h8;omega
   simp only [bn] at h;split at h
   ·exact done _ _ h
   ·obtain⟨y1,q1,h1,h2⟩:=ag h
    have:=fQ h1;obtain⟨y3,q3,h3,h4⟩:=ag h2;have:=jR h3;split at h4
    ·rename_i hb
     have:=bg hb;have a:=ih _ _ _ _ h4;simp only [NT.weak] at a;omega
    ·have:=done _ _ h4
     omega
  | module=>
   simp only [bn] at h;simp only [NT.weak];obtain⟨y1,q1,h1,h2⟩:=ag h;have:=bz h1;obtain⟨y3,q3,h3,h4⟩:=ag h2;have:=jR h3;obtain⟨y5,q5,h5,h6⟩:=ag h4;have:=bz h5;have a:=ih _ _ _ _ h6;simp only [NT.weak] at a;omega
  | imports s acc=>
   simp only [bn] at h;simp only [NT.weak];split at h
   ·rename_i hb
    have:=bg hb;obtain⟨y3,q3,h3,h4⟩:=ag h;have:=jR h3;obtain⟨y5,q5,h5,h6⟩:=ag h4;have:=bz h5;have a:=ih _ _ _ _ h6;simp only [NT.weak] at a;omega
   ·have a:=ih _ _ _ _ h
    simp only [NT.weak] at a;omega
  | decls s acc=>
   simp only [bn] at h;simp only [NT.weak];split at h
   ·have:=jS h;omega
   ·obtain⟨y1,q1,h1,h2⟩:=ag h
    have a:=ih _ _ _ _ h1;have b:=ih _ _ _ _ h2;simp only [NT.weak] at a b;omega
end bZ
end Go.Proofs.YtpcihajmcejliacGreatDoor
namespace Go.Proofs.YtpcihajmcejliacGreatDoor
open Go.RowKit
namespace bH
theorem cO {P:Program} {fn:Func} {p:Tmp} {ty:TypeId} {Q:Ending→World→Prop} {a:Act} {w:World} {A:Nat} {T:TypeId} {cs:Array Value} {d:TypeDesc} (h:fn.results=#[.cell p ty]) (hd:a.defers=[]) (hp:a.tmps[p]?.getD undef=.pointer (some ⟨A,0,none⟩)) (hA:aJ w A cs T)
  (hu:P.underlying ty=some d) (hd2:(match d with|.struct _|.array _ _=>true|_=>false)=true) (hi:(P.info? ty).map (·.size)=some cs.size) (hq:Q (.returned (.agg cs)) w):bodyPost P fn Q .ret a w:=by
 refine bodyPost_ret (v:=.agg cs) ?_ hd hq
 simp [results,h,hp,asAddr,run_loadVar_row w A T ty cs (0,0) d hA hu hd2 hi]
def OM (t:Tk):Value:=.agg #[.int .i64 t.kind,.string t.text,.int .i64 t.at_]
def xQ (E:Nat):List Tk→Tk
 | []=>⟨0,⟨#[]⟩,E⟩
 | t::_=>t
theorem Yv (E:Nat) (l:List Tk):(xQ E l).at_=posOf E l:=by cases l<;>rfl
theorem LV (E:Nat) (l:List Tk):(xQ E l).kind=kindOf l:=by cases l<;>rfl
theorem Va (E:Nat) (l:List Tk):(xQ E l).text=textOf l:=by cases l<;>rfl
set_option maxRecDepth 100000 in
set_option maxHeartbeats 1000000 in
theorem sO {W w:World} {S E:Nat} {l:List Tk} (h:bW W w S E l) :
  Calls Tryz.prog 174 #[.pointer (some ⟨S,0,none⟩)] w fun e w'=>e=.returned (OM (xQ E l))∧Ext w w':=by
 obtain⟨a,n,c,k,hb,h1,h2,h3⟩:=h.ex;have hA:=aJ.made w #[.int .i64 0,.string ⟨#[]⟩,.int .i64 0] 195;have hX:=(aB.refl (fun _=>False) w).alloc (.cells #[.int .i64 0,.string ⟨#[]⟩,.int .i64 0] 195);have hb2:=hb.alloc (.cells #[.int .i64 0,.string ⟨#[]⟩,.int .i64 0] 195);have hbl:=hb.lt;have hc0:=hb2.cell 0;have hc1:=hb2.cell 1;have hc2:=hb2.cell 2;simp at hc0 hc1 hc2
 have hf:=hb2.frozen;cases l with
 | nil=>
  simp only [List.length_nil,Nat.add_zero] at h1;subst h1;have HX:=Z_ hX;have HA:=Z_ hA;clear h3 hX h hb hb2 hA;go_enter Tryz.func174,Tryz.ntmps174
  go_wp2_with fail
  go_quiet (fail)
  have hA2:=HA.out.drewN nq;have Hq:=Z_ (HX.out.drewN nq);have hc:=hA2.cell;have Yj:=hA2.frozen;have hl2:=hA2.lt;have a43:(World.drewN (w.alloc (.cells #[.int .i64 0,.string ⟨#[]⟩,.int .i64 0] 195)) nq).cell? ⟨S,2,none⟩=some (.int .i64 E):=hc2;generalize World.drewN (w.alloc (.cells #[.int .i64 0,.string ⟨#[]⟩,.int .i64 0] 195)) nq=w2 at *;clear hc0 hc1 hc2 hf HX HA;go_wp2_with fail
  refine cO rfl rfl rfl (((hA2.set 0 _).set 1 _).set 2 _) Tryz.underlying195 rfl (by kernel_rfl) ?_
  exact⟨rfl,((Hq.out.bM (p:=⟨w.heap.size,0,none⟩) (by simp) _).bM (p:=⟨w.heap.size,1,none⟩) (by simp) _).bM (p:=⟨w.heap.size,2,none⟩) (by simp) _⟩
 | cons t r=>
  obtain⟨b,o,rfl,hbb,ht⟩:=h3 0 (by simp);obtain⟨t0,t1,t2,-⟩:=ht;have hW:=h.ext.ext hX;have hbW:=Nat.lt_of_lt_of_le hbb hW.size;have e:∀ i,(w.alloc (.cells #[.int .i64 0,.string ⟨#[]⟩,.int .i64 0] 195)).cell? ⟨b,i,none⟩=W.cell? ⟨b,i,none⟩:=fun i=>hW.cell (by exact hbb) id
  rw [←e] at t0 t1 t2;simp only [Nat.add_zero,List.getElem_cons_zero] at t0 t1 t2;have hkn:(k:Int)<(n:Int):=by simp at h1;omega
  have HX:=Z_ hX;have HA:=Z_ hA;clear h3 hX h hb hb2 hA e hW h1;obtain⟨tk,tt,ta⟩:=t;simp only at t0 t1 t2;go_enter Tryz.func174,Tryz.ntmps174
  go_wp2_with fail
  go_quiet (fail)
  have hA2:=HA.out.drewN nq;have Hq:=Z_ (HX.out.drewN nq);have hc:=hA2.cell;have Yj:=hA2.frozen;have hl2:=hA2.lt;replace t0:(World.drewN (w.alloc (.cells #[.int .i64 0,.string ⟨#[]⟩,.int .i64 0] 195)) nq).cell? ⟨b,o+k*3,none⟩=_:=t0;replace t1:(World.drewN (w.alloc (.cells #[.int .i64 0,.string ⟨#[]⟩,.int .i64 0] 195)) nq).cell? ⟨b,o+k*3+1,none⟩=_:=t1;replace t2:(World.drewN (w.alloc (.cells #[.int .i64 0,.string ⟨#[]⟩,.int .i64 0] 195)) nq).cell? ⟨b,o+k*3+2,none⟩=_:=t2;replace hc0:(World.drewN (w.alloc (.cells #[.int .i64 0,.string ⟨#[]⟩,.int .i64 0] 195)) nq).cell? ⟨S,0,none⟩=_:=hc0;replace hc1:(World.drewN (w.alloc (.cells #[.int .i64 0,.string ⟨#[]⟩,.int .i64 0] 195)) nq).cell? ⟨S,1,none⟩=_:=hc1;generalize World.drewN (w.alloc (.cells #[.int .i64 0,.string ⟨#[]⟩,.int .i64 0] 195)) nq=w2 at *
  clear hc2 hf HX HA;go_wp2_with fail
  go_still_tail 10,(by kernel_rfl)
  change wpList _ _ _ _ _ w2.drew
  have hA3:=hA2.drew;have hc:=hA3.cell;have Yj:=hA3.frozen;have hl2:=hA3.lt;have Oz:=Z_ Hq.out.drew;clear t0 t1 t2 hc0 hc1 hA2 Hq;generalize w2.drew=w3 at *;go_wp2_with fail
  refine cO rfl rfl rfl (((hA3.set 0 _).set 1 _).set 2 _) Tryz.underlying195 rfl (by kernel_rfl) ?_
  exact⟨rfl,((Oz.out.bM (p:=⟨w.heap.size,0,none⟩) (by simp) _).bM (p:=⟨w.heap.size,1,none⟩) (by simp) _).bM (p:=⟨w.heap.size,2,none⟩) (by simp) _⟩
theorem rQ {w w':World} (h:Ext w w') (S:Nat):aB (fun i=>i=S) w w':=h.weak fun _ _ h=>h.elim
theorem aA {w u:World} {S:Nat} (h:aB (fun i=>i=S) w u) (o:Nat) (v:Value):aB (fun i=>i=S) w (u.setCell ⟨S,o,none⟩ v):=h.setCell (p:=⟨S,o,none⟩) (fun _=>rfl) v
theorem LW {W w:World} {S E:Nat} {t:Tk} {r:List Tk} (h:bW W w S E (t::r)):mQ t:=by
 obtain⟨a,n,c,k,hb,h1,h2,h3⟩:=h.ex;obtain⟨b,o,-,-,ht⟩:=h3 0 (by simp);exact ht.ok
theorem Aq {W w:World} {S E:Nat} {t:Tk} {r:List Tk} (h:bW W w S E (t::r)):∃ k:Nat,w.cell? ⟨S,1,none⟩=some (.int .i64 k)∧k<10000∧bW W (w.setCell ⟨S,1,none⟩ (.int .i64 ((k:Int)+1))) S E r:=by
 obtain⟨a,n,c,k,hb,h1,h2,h3⟩:=h.ex;refine⟨k,hb.cell 1,by simp at h1;omega,⟨a,n,c,k+1,?_,by simp at h1;omega,h2,h3.tail⟩,h.ext.bM h.hS _,h.hS⟩
 have:=hb.set 1 (.int .i64 ((k:Int)+1));exact this
theorem BJ {W w:World} {S E:Nat} {l:List Tk} (h:bW W w S E l):∃ a n c k,aJ w S #[.slice a n c,.int .i64 (k:Nat),.int .i64 (E:Nat)] 108∧k+l.length=n∧n≤10000:=by
 obtain⟨a,n,c,k,hb,h1,h2,h3⟩:=h.ex;exact⟨a,n,c,k,hb,h1,h2⟩
theorem RQ (a b c:Value) (w:World):(Instr.field 195 (.agg #[a,b,c]) 2).run Tryz.prog w=.ok c w:=by
 unfold Instr.field;simp [asAgg,part,run_underlying Tryz.underlying195]
theorem J_ (a b c:Value) (w:World):(Instr.field 195 (.agg #[a,b,c]) 0).run Tryz.prog w=.ok a w:=by
 unfold Instr.field;simp [asAgg,part,run_underlying Tryz.underlying195]
set_option maxRecDepth 100000 in
set_option maxHeartbeats 1000000 in
theorem BK {W w:World} {S E:Nat} {l:List Tk} (h:bW W w S E l) :
  Calls Tryz.prog 173 #[.pointer (some ⟨S,0,none⟩)] w fun e w'=>e=.panicked (OL (posOf E l))∧Ext w w':=by
 have HC:=Z_ (sO h);rw [←Yv];clear h;generalize xQ E l=t at HC ⊢;obtain⟨tk,tt,ta⟩:=t;go_enter Tryz.func173,Tryz.ntmps173
 go_wp2_with fail
 refine HC.out.mono ?_
 rintro e w' ⟨rfl,hE⟩;unfold OM;have hfi:=RQ (.int .i64 tk) (.string tt) (.int .i64 ta) w';go_wp2_with fail
 exact⟨rfl,rfl,hE⟩
theorem str_eq {a b:ByteArray}:(a.toList == b.toList)=decide (a=b):=by
 rw [ByteArray.toList_eq,ByteArray.toList_eq,Bool.eq_iff_iff];simp only [beq_iff_eq,decide_eq_true_eq];constructor
 ·intro h;exact ByteArray.ext (Array.ext' h)
 ·rintro rfl;rfl
theorem RR {ws:List ByteArray} {s:ByteArray} {j:Nat} (h:j<ws.length):((ws.drop j).any fun x=>decide (s=x))=(decide (s=ws[j]) || ((ws.drop (j+1)).any fun x=>decide (s=x))):=by
 rw [List.drop_eq_getElem_cons h,List.any_cons]
set_option maxRecDepth 100000 in
set_option maxHeartbeats 1000000 in
theorem vS (g:Nat) (ws:List ByteArray) (n c:Nat) (s:ByteArray) (w:World) (hn:ws.length=n) (hm:n≤100) (hws:∀ j (h:j<ws.length),w.cell? ⟨g,j,none⟩=some (.string ws[j])) :
  Calls Tryz.prog 275 #[.slice (some ⟨g,0,none⟩) n c,.string s] w fun e w'=>Ext w w'∧∃ i:Int,e=.returned (.int .i64 i)∧decide (0≤i)=ws.any fun x=>decide (s=x):=by
 obtain⟨R,hR⟩:∃ R,(ws.any fun x=>decide (s=x))=R:=⟨_,rfl⟩;rw [hR];have HW:=Z_ hws;have HN:=Z_ hn;have HR:=Z_ hR;clear hws hn hR;go_enter Tryz.func275,Tryz.ntmps275
 go_wp2_with fail
 go_loopw [8] (fun i wr=>∃ k:Nat,k≤n∧i=.int .i64 k∧w=wr∧Hid (((ws.drop k).any fun x=>decide (s=x))=R)) (fun i _=>n-(intOf i).toNat)
 case atStart=>exact⟨0,Nat.zero_le _,rfl,rfl,HR⟩
 case round=>
  obtain⟨k,hk,rfl,rfl,hr⟩:=hrel;by_cases hlt:k<n
  ·have hkl:k<ws.length:=by rw [HN.out];exact hlt
   have hki:(k:Int)<(n:Int):=by omega
   have h0:=HW.out k hkl;have hr2:=hr.out;rw [RR hkl] at hr2;generalize ws[k]=x at *;by_cases e:s=x
   ·subst e
    have HT:=Z_ (show R=true by rw [←hr2];simp);have he:(s.toList == s.toList)=true:=by simp
    clear hr2 hr;go_wp2_with fail
    go_ret
    refine⟨aB.refl _ _,(k:Int),rfl,?_⟩
    rw [HT.out];simp
   ·have he:(s.toList == x.toList)=false:=by rw [str_eq];simpa using e
    have HT:=Z_ (show ((ws.drop (k+1)).any fun x=>decide (s=x))=R by rw [←hr2];simp [e]);clear hr2 hr;go_wp2_with fail
    go_roundw
    case rel=>exact⟨k+1,by omega,by go_num,trivial,HT⟩
    case measure=>simp [intOf];omega
  ·obtain rfl:k=n:=by omega
   have HT:=Z_ (show R=false by have:=hr.out;rw [List.drop_of_length_le (by rw [HN.out];exact Nat.le_refl _)] at this;rw [←this];rfl);clear hr;go_wp2_with fail
   go_ret
   exact⟨aB.refl _ _,-1,rfl,by rw [HT.out];rfl⟩
set_option maxRecDepth 100000 in
theorem Fj (g:Nat) (ws:List ByteArray) (n c:Nat) (s:ByteArray) (w:World) (hn:ws.length=n) (hm:n≤100) (hws:∀ j (h:j<ws.length),w.cell? ⟨g,j,none⟩=some (.string ws[j])) :
  Calls Tryz.prog 228 #[.slice (some ⟨g,0,none⟩) n c,.string s] w fun e w'=>e=.returned (.bool (ws.any fun x=>decide (s=x)))∧Ext w w':=by
 have HC:=Z_ (vS g ws n c s w hn hm hws);obtain⟨R,hR⟩:∃ R,(ws.any fun x=>decide (s=x))=R:=⟨_,rfl⟩;rw [hR] at HC ⊢;clear hws hn hR;go_enter Tryz.func228,Tryz.ntmps228
 go_wp2_with fail
 refine HC.out.mono ?_
 rintro e w' ⟨hE,i,rfl,hi⟩;subst hi;go_wp2_with fail
 go_ret
 exact⟨by simp,hE⟩
set_option maxRecDepth 100000 in
set_option maxHeartbeats 1000000 in
theorem y_ {W w:World} {S E:Nat} {l:List Tk} (h:bW W w S E l) (g:Nat) (ws:List ByteArray) (n c:Nat) (hn:ws.length=n) (hm:n≤100) (hws:∀ j (h:j<ws.length),w.cell? ⟨g,j,none⟩=some (.string ws[j])) (hg:g<w.heap.size) :
  Calls Tryz.prog 175 #[.pointer (some ⟨S,0,none⟩),.slice (some ⟨g,0,none⟩) n c] w fun e w'=>e=.returned (.bool (eY l ws))∧Ext w w':=by
 have HC:=Z_ (sO h)
 have hcon:∀ (s:ByteArray) (u:World),Ext w u→Calls Tryz.prog 228 #[.slice (some ⟨g,0,none⟩) n c,.string s] u fun e w'=>e=.returned (.bool (ws.any fun x=>decide (s=x)))∧Ext u w':=
  fun s u hE=>Fj g ws n c s u hn hm fun j hj=>by rw [hE.cell (by exact hg) id];exact hws j hj
 have aw0:=Z_ hcon;obtain⟨R,hR⟩:∃ R,eY l ws=R:=⟨_,rfl⟩;rw [hR]
 have hk:∀ t∈l.head?,mQ t:=by
  cases l with
  | nil=>intro t ht;cases ht
  | cons t r => intro t' ht; obtain rfl : t = t' := by simpa using ht
                exact LW h
 have HK:=Z_ hk;have HR:=Z_ hR;clear hws hn hR h hcon hk;cases l with
 | nil=>
  have hRf:R=false:=HR.out.symm;subst hRf;clear HR HK;simp only [xQ] at HC;go_enter Tryz.func175,Tryz.ntmps175
  go_wp2_with fail
  refine HC.out.mono ?_
  rintro e w1 ⟨rfl,hE⟩;unfold OM;have hA:=aJ.made w1 #[.int .i64 0,.string ⟨#[]⟩,.int .i64 E] 195;have hE2:=hE.alloc (.cells #[.int .i64 0,.string ⟨#[]⟩,.int .i64 E] 195);go_wp2_with fail
  go_ret
  exact⟨rfl,hE2⟩
 | cons t r=>
  have ho:=HK.out t rfl;obtain⟨tk,tt,ta⟩:=t;have hr:=HR.out;simp only [eY] at hr;simp only [xQ] at HC;have hk1:=ho.kinds;simp only at hk1;clear HR HK ho;by_cases hk2:tk=2
  ·subst hk2
   have hRf:R=false:=by rw [←hr];rfl
   subst hRf;clear hr;go_enter Tryz.func175,Tryz.ntmps175
   go_wp2_with fail
   refine HC.out.mono ?_
   rintro e w1 ⟨rfl,hE⟩;unfold OM;have hE2:=hE.alloc (.cells #[.int .i64 2,.string tt,.int .i64 ta] 195);go_wp2_with fail
   go_ret
   exact⟨rfl,hE2⟩
  ·have hr2:(ws.any fun s=>decide (tt=s))=R:=by rw [←hr];simp [hk2]
   have HR2:=Z_ hr2;have hb2:(tk != 2)=true:=by simpa using hk2
   have hb0:(tk != 0)=true:=by simp;omega
   clear hr hr2;go_enter Tryz.func175,Tryz.ntmps175
   go_wp2_with fail
   refine HC.out.mono ?_
   rintro e w1 ⟨rfl,hE⟩;unfold OM;have hE2:=hE.alloc (.cells #[.int .i64 tk,.string tt,.int .i64 ta] 195);go_wp2_with fail
   refine(aw0.out tt _ hE2).mono ?_
   rintro e w2 ⟨rfl,jq⟩;rw [HR2.out];go_wp2_with fail
   go_ret
   exact⟨rfl,hE2.ext jq⟩
theorem RS {l:List Tk} {ws:List ByteArray} (h:eY l ws=true):∃ t r,l=t::r:=by
 cases l with
 | nil=>cases h
 | cons t r=>exact⟨t,r,rfl⟩
set_option maxRecDepth 100000 in
set_option maxHeartbeats 1000000 in
theorem eP {W w:World} {S E:Nat} {l:List Tk} (h:bW W w S E l) (s:ByteArray) :
  Calls Tryz.prog 97 #[.pointer (some ⟨S,0,none⟩),.string s] w
   fun e w'=>e=.returned (.bool (eY l [s]))∧aB (fun i=>i=S) w w'∧bW W w' S E (if eY l [s]=true then l.tail else l):=by
 have hS:=h.lt;have hP1:=h.alloc (.cells #[.string s] 9)
 have HC:=Z_ (y_ hP1 w.heap.size [s] 1 1 rfl (by decide) (fun j hj=>by
  obtain rfl:j=0:=by simpa using hj
  exact(aJ.made w #[.string s] 9).cell 0) (by simp))
 have hC0:aB (fun i=>i=S) w (w.alloc (.cells #[.string s] 9)):=(aB.refl _ _).alloc _;have HP:=Z_ (fun u (hE:Ext (w.alloc (.cells #[.string s] 9)) u)=>hP1.extend hE);have hl:=@RS l [s];generalize eY l [s]=R at *;clear h hP1;cases R with
 | false=>
  clear hl;go_enter Tryz.func97,Tryz.ntmps97
  go_wp2_with fail
  refine HC.out.mono ?_
  rintro e w1 ⟨rfl,hE⟩;go_wp2_with fail
  go_ret
  exact⟨rfl,hC0.ext hE,HP.out _ hE⟩
 | true=>
  obtain⟨t,r,rfl⟩:=hl rfl;go_enter Tryz.func97,Tryz.ntmps97
  go_wp2_with fail
  refine HC.out.mono ?_
  rintro e w1 ⟨rfl,hE⟩;have hP:=HP.out _ hE;obtain⟨k,hk,hk2,uS⟩:=Aq hP;obtain⟨a',n',c',k',hB,-,-⟩:=BJ hP;have hf:=hB.frozen 1;have hSl:=hB.lt;have hkw:IntKind.i64.wrap ((k:Int)+1)=(k:Int)+1:=by unfold IntKind.wrap;simp only [IntKind.bits,IntKind.signed];simp;omega
  have HP2:=Z_ uS;clear uS hP hB;go_wp2_with fail
  go_ret
  exact⟨rfl,(hC0.ext hE).setCell (p:=⟨S,1,none⟩) (fun _=>rfl) _,HP2.out⟩
set_option maxRecDepth 100000 in
set_option maxHeartbeats 1000000 in
theorem dV {W w:World} {S E:Nat} {l:List Tk} (h:bW W w S E l) (g c:Nat) (s:ByteArray) (hg:w.cell? ⟨g,0,none⟩=some (.string s)) :
  Calls Tryz.prog 94 #[.pointer (some ⟨S,0,none⟩),.slice (some ⟨g,0,none⟩) 1 c] w (gU af0 W w S E (dU s l)):=by
 have HC:=Z_ (eP h s);have JZ:=Z_ (fun (u:World) (h:bW W u S E l)=>BK h);have hT:dU s l=if eY l [s]=true then .got () l.tail else .bad l:=rfl
 obtain⟨T,hT2⟩:∃ T,dU s l=T:=⟨_,rfl⟩;rw [hT2];rw [hT2] at hT;clear hT2;generalize eY l [s]=R at *;have HT:=Z_ hT;clear h hT;go_enter Tryz.func94,Tryz.ntmps94
 go_wp2_with fail
 go_loopw [8] (fun i wr=>∃ k:Nat,i=.int .i64 k∧((k=0∧w=wr)∨(k=1∧Hid (R=true∧aB (fun i=>i=S) w wr∧bW W wr S E l.tail)))) (fun i _=>1-(intOf i).toNat)
 case atStart=>exact⟨0,rfl,.inl ⟨rfl,rfl⟩⟩
 case round=>
  obtain⟨k,rfl,⟨rfl,rfl⟩|⟨rfl,hr⟩⟩:=hrel
  ·go_wp2_with fail
   refine HC.out.mono ?_
   rintro e w1 ⟨rfl,hC,hP⟩;cases R with
   | true=>
    have HR:=Z_ (show true=true∧aB (fun i=>i=S) w w1∧bW W w1 S E l.tail from⟨rfl,hC,by simpa using hP⟩);clear hC hP;go_wp2_with fail
    go_roundw
    case rel=>exact⟨1,rfl,.inr ⟨rfl,HR⟩⟩
    case measure=>simp [intOf]
   | false=>
    have uS:bW W w1 S E l:=by simpa using hP
    have HC2:=Z_ hC;have HF:=Z_ (JZ.out _ uS);clear hC hP uS;go_wp2_with fail
    refine HF.out.mono ?_
    rintro e w2 ⟨rfl,hE⟩;go_wp2_with fail
    exact⟨rfl,gU.fails (HC2.out.ext hE) (by simpa using HT.out)⟩
  ·go_wp2_with fail
   go_end0
   obtain⟨rfl,hC,hP⟩:=hr.out;exact gU.reads hC (by simpa using HT.out) rfl hP
set_option maxRecDepth 100000 in
set_option maxHeartbeats 1000000 in
theorem fG (k m:Int) (s:ByteArray) (a:Option Addr) (n c:Nat) (w:World) :
  Calls Tryz.prog 95 #[.int .i64 k,.string s,.int .i64 m,.slice a n c] w fun e w'=>e=.returned (.agg #[.int .i64 k,.string s,.int .i64 m,.slice a n c])∧Ext w w':=by
 obtain⟨N,hN⟩:∃ N,w.heap.size=N:=⟨_,rfl⟩;have hA:=aJ.made w #[.int .i64 0,.string ⟨#[]⟩,.int .i64 0,.slice none 0 0] 24;have hX:=(aB.refl (fun _=>False) w).alloc (.cells #[.int .i64 0,.string ⟨#[]⟩,.int .i64 0,.slice none 0 0] 24);rw [hN] at hA;have hc:=hA.cell;have hf:=hA.frozen;have hl:=hA.lt;have HX:=Z_ hX;have HA:=Z_ hA;clear hX hA;go_enter Tryz.func95,Tryz.ntmps95
 go_wp2_with fail
 have hB:=aJ.made w #[.int .i64 k,.string s,.int .i64 m,.slice a n c] 24;rw [hN] at hB;refine cO rfl rfl rfl hB Tryz.underlying24 rfl (by kernel_rfl) ?_
 exact⟨rfl,(aB.refl _ _).alloc _⟩
set_option maxRecDepth 100000 in
set_option maxHeartbeats 1000000 in
theorem cE {W w:World} {S E:Nat} {l:List Tk} (h:bW W w S E l) :
  Calls Tryz.prog 177 #[.pointer (some ⟨S,0,none⟩)] w (gU ae_ W w S E (dJ l)):=by
 have HC:=Z_ (eP h pF);have hT:dJ l=if eY l [pF]=true then .got 1 l.tail else (dU rI l).bind fun _ l=>.got 0 l:=rfl
 obtain⟨T,hT2⟩:∃ T,dJ l=T:=⟨_,rfl⟩;rw [hT2];rw [hT2] at hT;clear hT2;generalize eY l [pF]=R at *;have HT:=Z_ hT;clear h hT;go_enter Tryz.func177,Tryz.ntmps177
 go_wp2_with fail
 refine HC.out.mono ?_
 rintro e w1 ⟨rfl,hC,hP⟩;cases R with
 | true=>
  have uS:bW W w1 S E l.tail:=by simpa using hP
  have HR:=Z_ (gU.reads (V:=ae_) hC HT.out ⟨rfl,by decide,by decide⟩ uS);clear hC hP uS;go_wp2_with fail
  go_ret
  exact HR.out
 | false=>
  have uS:bW W w1 S E l:=by simpa using hP
  have HN:=Z_ (dV (uS.alloc (.cells #[.string rI] 9)) w1.heap.size 1 rI ((aJ.made w1 #[.string rI] 9).cell 0));have hC2:=hC.alloc (.cells #[.string rI] 9);have HC2:=Z_ hC2;have HT2:=Z_ (show (dU rI l).bind (fun _ l=>.got 0 l)=T by have:=HT.out;simpa using this.symm);clear hC hP uS hC2 HT;go_wp2_with fail
  refine HN.out.mono ?_
  rintro e w2 hr;have hne:dU rI l≠.out:=by unfold dU;split<;>intro h<;>cases h
  obtain⟨uG,⟨l2,hp,rfl⟩|⟨x,l2,v,hp,rfl,rfl,JG⟩⟩:=hr.cases hne
  ·have HF:=Z_ (Out.aH HT2.out hp)
   have yI:=Z_ (HC2.out.then uG);clear hr hp uG hne;go_wp2_with fail
   exact⟨rfl,gU.fails yI.out HF.out⟩
  ·have HF:=Z_ (Out.aI HT2.out hp)
   have yI:=Z_ (HC2.out.then uG);have ZR:=Z_ JG;clear hr hp uG hne JG;go_wp2_with fail
   go_ret
   exact gU.reads yI.out HF.out.symm ⟨rfl,by decide,by decide⟩ ZR.out
end bH
end Go.Proofs.YtpcihajmcejliacGreatDoor
namespace Go.Proofs.YtpcihajmcejliacGreatDoor
open Go.RowKit
def dG (w:World):Prop:=∃ m,w.cell? ⟨1,0,none⟩=some (.int .i64 m)
theorem dG.aU {S:Nat→Prop} {w w':World} (h:dG w) (hc:aB S w w') (hn:¬ S 1):dG w':=by
 obtain⟨m,h⟩:=h;have hl:=World.block_lt_of_cell? w _ h;exact⟨m,by rw [hc.cell hl hn];exact h⟩
theorem dG.ext {w w':World} (h:dG w) (hc:Ext w w'):dG w':=h.aU hc id
namespace name
theorem zf (s:ByteArray):s.data.toList.length=s.size:=by rw [Array.length_toList];rfl
set_option maxRecDepth 100000 in
set_option maxHeartbeats 1000000 in
theorem oG (s:ByteArray) (w:World) (hs:s.size≤9223372036854775807) (hv:ErrVar w) (hm:dG w) :
  Calls Tryz.prog 56 #[.string s] w fun e w'=>e=.returned (.bool (nameB s.data.toList))∧Ext w w':=by
 generalize hR:nameB s.data.toList=R;have hRR:=hR;rw [nameB] at hRR;have HR:=Z_ hRR;clear hR hRR;obtain⟨T,hT⟩:∃ T,jY s.data.toList=T:=⟨_,rfl⟩;have C1:=Z_ (fun w hv=>lexTells.H8 s w hs hv T hT);have hword:kT s.data.toList=true→T=([(1,0,s.size)],0,0):=fun h=>by rw [←hT,OO _ h,zf]
 have HT:=Z_ hT;obtain⟨l,c,a⟩:=T;simp only at C1;clear hT;go_enter Tryz.func56,Tryz.ntmps56
 go_wp2_with fail
 refine(C1.out _ hv).mono ?_
 rintro e w1 ⟨v,rfl,ho,hE⟩;have hfalse:kT s.data.toList=false→R=false:=fun h=>by rw [←HR.out,h];rfl
 by_cases hc:c=0
 ·subst hc
  by_cases hl:l.length=1
  ·obtain⟨⟨kd,p,n⟩,rfl⟩:=List.length_eq_one_iff.1 hl
   obtain⟨g,cap,rfl⟩:∃ g cap,v=.slice (some ⟨g,0,none⟩) 1 cap:=by
    rcases ho.2 with ⟨_,h⟩|⟨g,cap,cur,rfl,_⟩
    ·cases h
    ·exact⟨g,cap,rfl⟩
   have a0:w1.cell? ⟨g,0,none⟩=some (.int .i64 kd):=(ho.cellAt 0 (by decide)).trans rfl;have a1:w1.cell? ⟨g,1,none⟩=some (.string (s.extract p (p+n))):=(ho.cellAt 1 (by decide)).trans rfl;have hg:g<w1.heap.size:=(ho.lt g rfl).2;have hE1:=Z_ (hE.alloc (.cells #[.int .i64 0,.int .i64 a] 27));by_cases hk:kd=1
   ·subst hk
    by_cases ht:(s.data.toList.drop p).take n=s.data.toList
    ·have hw:=Fp _ p n a HT.out ht
     have hx:s.extract p (p+n)=s:=by
      apply ByteArray.ext
      apply Array.ext'
      rw [lex.kD];exact ht
     have hcw:=vw _ hw;have hR2:R = !lH.contains s.data.toList:=by rw [←HR.out,hw];rfl
     have h16:s.size≤16:=by
      simp only [kT,Bool.and_eq_true,decide_eq_true_eq,zf] at hw;exact hw.1.2
     obtain⟨B,hB⟩:∃ B,lH.contains s.data.toList=B:=⟨_,rfl⟩;rw [hB] at hcw hR2;obtain⟨m,hm2⟩:=(hm.ext (hE.alloc (.cells #[.int .i64 0,.int .i64 a] 27)))
     have hsub:((⟨#[32]⟩:ByteArray)++s++⟨#[32]⟩).data.toList=32::(s.data.toList ++ [32]):=by
      simp [ByteArray.data_append]
     have cc:=Tryz.strings_Contains ⟨#[32,100,111,32,101,108,115,101,32,103,105,118,101,115,32,104,105,103,104,32,105,102,32,105,109,112,111,114,116,32,105,110,32,108,111,119,32,109,111,100,117,108,101,32,111,117,116,32,112,114,111,99,32,112,117,98,32,114,101,116,117,114,110,32,119,104,105,108,101,32]⟩ ((⟨#[32]⟩:ByteArray)++s++⟨#[32]⟩) m _ (by decide) hm2;rw [hsub] at cc;have CC:=Z_ cc;have HCW:=Z_ hcw;rw [hx] at a1;clear cc hm2 hsub hcw hB ho hx hw ht hword hfalse hl;go_wp2_with fail
     refine CC.out.mono ?_
     rintro e w' ⟨rfl,rfl⟩;rw [HCW.out];go_wp2_with fail
     go_ret
     exact⟨dO hR2.symm,hE1.out⟩
    ·have hnw:kT s.data.toList=false:=by
      cases hw:kT s.data.toList
      ·rfl
      ·have:=hword hw
       have e1:=congrArg (fun T:List Tok×Int×Nat=>(T.1.map (·.2.1),T.1.map (·.2.2))) this;simp at e1
       obtain⟨rfl,rfl⟩:=e1;exact absurd (by rw [List.drop_zero,List.take_of_length_le (by rw [zf];exact Nat.le_refl _)]) ht
     have hF:=hfalse hnw;obtain⟨x,hx⟩:∃ x,s.extract p (p+n)=x:=⟨_,rfl⟩
     have hxs:x≠s:=by
      intro h;rw [h] at hx;exact ht (by rw [←lex.kD,hx])
     rw [hx] at a1
     have h2:(x.toList == s.toList)=false:=by
      rw [ByteArray.toList_eq,ByteArray.toList_eq,beq_eq_false_iff_ne];intro h;exact hxs (ByteArray.ext (Array.ext' h))
     have h3:(x.data.toList == s.data.toList)=false:=by
      rw [beq_eq_false_iff_ne];intro h;exact hxs (ByteArray.ext (Array.ext' h))
     clear ho hx hnw hword hfalse hl ht hxs;go_wp2_with fail
     go_ret
     exact⟨dO hF.symm,hE1.out⟩
   ·have hF:=hfalse (by
     cases hw:kT s.data.toList
     ·rfl
     ·have:=hword hw
      have e1:=congrArg (fun T:List Tok×Int×Nat=>T.1.map (·.1)) this;simp at e1
      exact absurd e1 hk)
    have hkd:(kd == 1)=false:=by rw [beq_eq_false_iff_ne];exact hk
    clear ho hword hfalse hl hk;go_wp2_with fail
    go_ret
    exact⟨dO hF.symm,hE1.out⟩
  ·have hF:=hfalse (by
    cases hw:kT s.data.toList
    ·rfl
    ·have:=hword hw
     simp only [Prod.mk.injEq] at this;rw [this.1] at hl;exact absurd rfl hl)
   obtain⟨g,n,cap,rfl,hn⟩:∃ g n cap,v=.slice g n cap∧n=l.length:=by
    rcases ho.2 with ⟨rfl,h⟩|⟨g,cap,cur,rfl,_⟩
    ·exact⟨_,_,_,rfl,h.symm⟩
    ·exact⟨_,_,_,rfl,rfl⟩
   have hnl:((n:Int) == 1)=false:=by rw [beq_eq_false_iff_ne];omega
   clear ho hword hfalse hl hn;go_wp2_with fail
   go_ret
   exact⟨dO hF.symm,hE.alloc _⟩
 ·have hF:=hfalse (by
   cases hw:kT s.data.toList
   ·rfl
   ·have:=hword hw
    simp only [Prod.mk.injEq] at this;exact absurd this.2.1 hc)
  have hcc:(c == 0)=false:=by rw [beq_eq_false_iff_ne];exact hc
  clear ho hword hfalse hc;go_wp2_with fail
  go_ret
  exact⟨dO hF.symm,hE.alloc _⟩
end name
namespace af1
end af1
end Go.Proofs.YtpcihajmcejliacGreatDoor
