/- Nodes and tokens in plain Lean, how they lie in memory, and what the parser comes to. The walk of the program's parser: peek, fail, is, have, need, name, whole, label, node, number. The walks of syntax.IsName and of the reference's Name. -/
import Derived.Test.YtpcihajmcejliacGreatDoorProg
import Derived.WalkKit
import Derived.WalkSpells
import Derived.Deep.RegionHeld3
import Derived.BigQuiet
import Derived.Deep.QuietTactic
import Derived.StillTailTactics
import Derived.Deep.CutBlock
import Derived.Deep.DeepCutAuto
import Derived.Test.YtpcihajmcejliacGreatDoorLexNumo
import Derived.Test.YtpcihajmcejliacGreatDoorNameMatho
namespace Go.Proofs.YtpcihajmcejliacGreatDoor
open Go.RowKit
inductive Nd where
 | mk (kind:Int) (text:ByteArray) (num:Int) (kids:List Nd)
def Nd.kids:Nd→List Nd
 | .mk _ _ _ l=>l
theorem Nd.lN (k:Int) (t:ByteArray) (m:Int) (l:List Nd) (j:Nat) (h:j<l.length):SizeOf.sizeOf l[j]<SizeOf.sizeOf (Nd.mk k t m l):=by
 have h1:=List.sizeOf_lt_of_mem (List.getElem_mem h);have h2:SizeOf.sizeOf (Nd.mk k t m l)=1+SizeOf.sizeOf k+SizeOf.sizeOf t+SizeOf.sizeOf m+SizeOf.sizeOf l:=by simp
 omega
theorem rq {P:Nd→Prop} (h:∀ k t m l,(∀ x∈l,P x)→P (.mk k t m l)):∀ x,P x:=by
 have:∀ n x,SizeOf.sizeOf x≤n→P x:=by
  intro n;induction n with
  | zero=>
   intro x hx;cases x;simp at hx
  | succ n ih=>
   intro x hx;cases x with
   | mk k t m l=>
    refine h k t m l fun y hy=>ih y ?_
    obtain⟨j,hj,rfl⟩:=List.getElem_of_mem hy;have:=Nd.lN k t m l j hj;omega
 exact fun x=>this _ x (Nat.le_refl _)
def fN (w:World):Nd→Value→Prop
 | .mk k t m l,v=>∃ a c,v=.agg #[.int .i64 k,.string t,.int .i64 m,.slice a l.length c]∧l.length≤c∧c≤maxLen∧t.size≤10000∧
   ∀ (j:Nat) (h:j<l.length),∃ b o,a=some ⟨b,o,none⟩∧b<w.heap.size∧∃ u,fN w l[j] u∧u.cells.size=4∧∀ i,i<4→w.cell? ⟨b,o+j*4+i,none⟩=u.cells[i]?
 termination_by x=>SizeOf.sizeOf x
 decreasing_by exact Nd.lN k t m l j h
def KR (w:World) (b o:Nat) (x:Nd):Prop:=∃ u,fN w x u∧u.cells.size=4∧∀ i,i<4→w.cell? ⟨b,o+i,none⟩=u.cells[i]?
theorem dL (w:World) (k:Int) (t:ByteArray) (m:Int) (l:List Nd) (v:Value):fN w (.mk k t m l) v↔∃ a c,v=.agg #[.int .i64 k,.string t,.int .i64 m,.slice a l.length c]∧l.length≤c∧c≤maxLen∧t.size≤10000∧bC 4 KR w a l:=by
 rw [fN];exact Iff.rfl
theorem aX {w w':World} (hk:bV w w'):∀ x v,fN w x v→fN w' x v:=by
 refine rq fun k t m l ih v h=>?_
 rw [dL] at h ⊢;obtain⟨a,c,e,h1,h2,h3,h4⟩:=h;refine⟨a,c,e,h1,h2,h3,fun j hj=>?_⟩
 obtain⟨b,o,ea,hb,u,hu,hs,hc⟩:=h4 j hj;refine⟨b,o,ea,Nat.lt_of_lt_of_le hb hk.1,u,ih _ (List.getElem_mem hj) _ hu,hs,fun i hi=>?_⟩
 have h5:u.cells[i]? = some (u.cells[i]'(by omega)):=Array.getElem?_eq_getElem (by omega);rw [h5];exact hk.2 _ _ ((hc i hi).trans h5)
def OH (x:Nd) (v:Value) (w:World):Prop:=fN w x v
theorem fP (x:Nd) (u:Value) (w w':World) (hk:bV w w') (h:OH x u w):OH x u w':=aX hk x u h
theorem bD {w:World} {x:Nd} {v:Value} (h:fN w x v):∃ a b c d,v=.agg #[a,b,c,d]∧v.cells=#[a,b,c,d]∧a.oneCell'=true∧b.oneCell'=true∧c.oneCell'=true∧d.oneCell'=true:=by
 cases x with
 | mk k t m l=>
  rw [dL] at h;obtain⟨a,c,rfl,-⟩:=h;exact⟨_,_,_,_,rfl,rfl,rfl,rfl,rfl,rfl⟩
theorem fB {w:World} {x:Nd} {v:Value} (h:fN w x v):v.cells.size=4:=by
 obtain⟨a,b,c,d,-,e,-⟩:=bD h;rw [e];rfl
theorem OI (w:World) (b o:Nat) (x:Nd) (u:Value) (h:OH x u w) (hs:u.cells.size=4) (hc:∀ i,i<4→w.cell? ⟨b,o+i,none⟩=u.cells[i]?):KR w b o x:=⟨u,h,hs,hc⟩
theorem g_ {w w':World} (hk:bV w w') (b o:Nat) (x:Nd) (h:KR w b o x):KR w' b o x:=by
 obtain⟨u,hu,hs,hc⟩:=h;refine⟨u,aX hk _ _ hu,hs,fun i hi=>?_⟩
 have h5:u.cells[i]? = some (u.cells[i]'(by omega)):=Array.getElem?_eq_getElem (by omega);rw [h5];exact hk.2 _ _ ((hc i hi).trans h5)
theorem pY {w w':World} {B:Nat} {x:Nd} {v:Value} (h:fN (hide (below B) w) x v) {S:Nat→Prop} (hC:aB S w w') (hS:∀ i,S i→i<B):fN (hide (below B) w') x v:=
 aX (aH hC fun i _ hs=>by simp [below,hS i hs]) _ _ h
theorem BQ {w:World} {B B2:Nat} {x:Nd} {v:Value} (h:fN (hide (below B) w) x v) (hB:B2≤B):fN (hide (below B2) w) x v:=
 aX (aT (Nat.le_refl _) fun i hi hm=>by
  simp only [below,decide_eq_false_iff_not] at hm ⊢;exact⟨by omega,trivial⟩) _ _ h
theorem H6 {w:World} {B:Nat} {k m:Int} {t:ByteArray} {v:Value} {l:List Nd} (h:Grow 4 24 OH B w v l) (ht:t.size≤10000):fN (hide (below B) w) (.mk k t m l) (.agg #[.int .i64 k,.string t,.int .i64 m,v]):=by
 obtain⟨a,c,rfl,h1,h2,h3⟩:=h.row (In:=KR) fP OI;rw [dL];exact⟨a,c,rfl,h1,h2,ht,h3⟩
theorem kM (w:World) (k m:Int) (t:ByteArray) (ht:t.size≤10000):fN w (.mk k t m []) (.agg #[.int .i64 k,.string t,.int .i64 m,.slice none 0 0]):=by
 rw [dL];exact⟨none,0,rfl,Nat.le_refl _,by decide,ht,fun j h=>by cases h⟩
structure Tk where
 kind:Int
 text:ByteArray
 at_:Int
structure jF (t:Tk):Prop where
 kinds:1≤t.kind∧t.kind≤3
 size:t.text.size≤3000
 word:t.kind=1→jH t.text.data.toList=true
 num:t.kind=2→nM t.text.data.toList=true∧t.text.data.toList≠[]∧decFrom 0 t.text.data.toList<9223372036854775808
 sign:t.kind=3→jH t.text.data.toList=false
structure ad_ (w:World) (b o:Nat) (t:Tk):Prop where
 c0:w.cell? ⟨b,o,none⟩=some (.int .i64 t.kind)
 c1:w.cell? ⟨b,o+1,none⟩=some (.string t.text)
 c2:w.cell? ⟨b,o+2,none⟩=some (.int .i64 t.at_)
 ok:jF t
def BR (w:World) (a:Option Addr) (k:Nat) (l:List Tk):Prop:=∀ (j:Nat) (h:j<l.length),∃ b o,a=some ⟨b,o,none⟩∧b<w.heap.size∧ad_ w b (o+(k+j)*3) l[j]
theorem BR.tail {w:World} {a:Option Addr} {k:Nat} {t:Tk} {r:List Tk} (h:BR w a k (t::r)):BR w a (k+1) r:=fun j hj=>by
 have:=h (j+1) (by simpa using hj);rw [show k+1+j=k+(j+1) by omega];exact this
structure bz (W w:World) (S E:Nat) (l:List Tk):Prop where
 ex:∃ a n c k,aC w S #[.slice a n c,.int .i64 (k:Nat),.int .i64 (E:Nat)] 108∧k+l.length=n∧n≤10000∧BR W a k l
 ext:Ext W w
 hS:W.heap.size≤S
theorem bz.aK {W w w':World} {S E:Nat} {l:List Tk} (h:bz W w S E l) {M:Nat→Prop} (hE:aB M w w') (hn:¬ M S) (hM:∀ i,M i→W.heap.size≤i):bz W w' S E l:=by
 obtain⟨a,n,c,k,hb,h1,h2,h3⟩:=h.ex;exact⟨⟨a,n,c,k,hb.aK hE hn,h1,h2,h3⟩,h.ext.trans hE (fun i hi hm=>by have:=hM i hm;omega),h.hS⟩
theorem bz.extend {W w w':World} {S E:Nat} {l:List Tk} (h:bz W w S E l) (hE:Ext w w'):bz W w' S E l:=h.aK hE id fun _ h=>h.elim
theorem bz.alloc {W w:World} {S E:Nat} {l:List Tk} (h:bz W w S E l) (o:Obj):bz W (w.alloc o) S E l:=h.extend ((aB.refl _ _).alloc o)
theorem bz.lt {W w:World} {S E:Nat} {l:List Tk} (h:bz W w S E l):S<w.heap.size:=by obtain⟨a,n,c,k,hb,-⟩:=h.ex;exact hb.lt
theorem bz.zY {W w:World} {S E:Nat} {l:List Tk} (h:bz W w S E l) {p:Addr} (hp:p.block≠S) (hW:W.heap.size≤p.block) (u:Value):bz W (w.setCell p u) S E l:=
 h.aK ((aB.refl (fun i=>i=p.block) w).setCell (fun _=>rfl) _) (fun e=>hp e.symm) (fun i hi=>by omega)
inductive Out (α : Type) where
 | out
 | bad (l:List Tk)
 | got (x:α) (l:List Tk)
def Out.bind {α β : Type} (o:Out α) (f:α→List Tk→Out β):Out β:=match o with
 | .out=>.out
 | .bad l=>.bad l
 | .got x l=>f x l
theorem Out.bh {α β : Type} {o:Out α} {f:α→List Tk→Out β} {T:Out β} (h:o.bind f=T) (hT:T≠.out):o≠.out:=by
 rintro rfl;exact hT h.symm
theorem Out.aF {α β : Type} {o:Out α} {f:α→List Tk→Out β} {T:Out β} {l:List Tk} (h:o.bind f=T) (ho:o=.bad l):T=.bad l:=by
 subst ho;exact h.symm
theorem Out.aG {α β : Type} {o:Out α} {f:α→List Tk→Out β} {T:Out β} {x:α} {l:List Tk} (h:o.bind f=T) (ho:o=.got x l):f x l=T:=by
 subst ho;exact h
def posOf (E:Nat):List Tk→Int
 | []=>E
 | t::_=>t.at_
def kindOf:List Tk→Int
 | []=>0
 | t::_=>t.kind
def textOf:List Tk→ByteArray
 | []=>⟨#[]⟩
 | t::_=>t.text
def fK (l:List Tk) (ws:List ByteArray):Bool:=match l with
 | []=>false
 | t::_=>decide (t.kind≠2)&&(ws.any fun s=>decide (t.text=s))
def H7:ByteArray:=⟨#[46]⟩
def cZ:ByteArray:=⟨#[59]⟩
def jS:ByteArray:=⟨#[44]⟩
def Nh:ByteArray:=⟨#[61]⟩
def iD:ByteArray:=⟨#[40]⟩
def dN:ByteArray:=⟨#[41]⟩
def xk:ByteArray:=⟨#[91]⟩
def sJ:ByteArray:=⟨#[93]⟩
def yS:ByteArray:=⟨#[123]⟩
def FY:ByteArray:=⟨#[125]⟩
def zZ:ByteArray:=⟨#[45]⟩
def OJ:ByteArray:=⟨#[33]⟩
def p_:ByteArray:=⟨#[104,105,103,104]⟩
def rH:ByteArray:=⟨#[108,111,119]⟩
def ZL:ByteArray:=⟨#[100,111]⟩
def ZM:ByteArray:=⟨#[105,102]⟩
def FZ:ByteArray:=⟨#[101,108,115,101]⟩
def Aa:ByteArray:=⟨#[119,104,105,108,101]⟩
def OL:ByteArray:=⟨#[111,117,116]⟩
def ZN:ByteArray:=⟨#[105,110]⟩
def vP:ByteArray:=⟨#[114,101,116,117,114,110]⟩
def sK:ByteArray:=⟨#[109,111,100,117,108,101]⟩
def vS:ByteArray:=⟨#[105,109,112,111,114,116]⟩
def sN:ByteArray:=⟨#[112,117,98]⟩
def xm:ByteArray:=⟨#[112,114,111,99]⟩
def oZ:ByteArray:=⟨#[103,105,118,101,115]⟩
def aU:ByteArray:=⟨#[]⟩
def dY (s:ByteArray) (l:List Tk):Out Unit:=if fK l [s]=true then .got () l.tail else .bad l
def fH:List Tk→Out ByteArray
 | []=>.bad []
 | t::r=>if t.kind=1∧jb.contains t.text.data.toList=false then .got t.text r else .bad (t::r)
def iL (l:List Tk):Out ByteArray:=(fH l).bind fun s l=>if fK l [H7]=true then (fH l.tail).bind fun t l=>.got (s++(H7++t)) l else .got s l
def dG (l:List Tk):Out Int:=if fK l [p_]=true then .got 1 l.tail else (dY rH l).bind fun _ l=>.got 0 l
def valOf (s:ByteArray):Int:=(decFrom 0 s.data.toList:Nat)
def fD:List Tk→Out Nd
 | []=>.bad []
 | t::r=>if t.kind=2 then .got (.mk 15 aU (valOf t.text) []) r else .bad (t::r)
def rI (s:ByteArray):Int×Int:=
 if s=⟨#[61,61]⟩ then (9,0) else if s=⟨#[60]⟩ then (8,0) else if s=⟨#[43]⟩ then (1,1) else if s=⟨#[45]⟩ then (2,1) else if s=⟨#[124]⟩ then (7,1)
 else if s=⟨#[42]⟩ then (3,2) else if s=⟨#[47]⟩ then (4,2) else if s=⟨#[37]⟩ then (5,2) else if s=⟨#[38]⟩ then (6,2) else (0,-1)
inductive NT where
 | expr|bound (k:Nat)|loop (k:Nat) (x:Nd)|unary|asked|place (s:ByteArray)|call (s:ByteArray)|args (s:ByteArray) (acc:List Nd)
 | block|stats (acc:List Nd)|stat|decl|proc (dR:Int)|params (s:ByteArray) (dR:Int) (acc:List Nd)|module|imports (s:ByteArray) (acc:List Nd)|decls (s:ByteArray) (acc:List Nd)
def kN (x:Nd) (l:List Tk):Out Nd:=(dY cZ l).bind fun _ l=>.got x l
def bJ:Nat→NT→List Tk→Out Nd
 | 0,_,_=>.out
 | n+1,.expr,l=>bJ n (.bound 0) l
 | n+1,.bound k,l=>if 2<k then bJ n .unary l else (bJ n (.bound (k+1)) l).bind fun x l=>bJ n (.loop k x) l
 | n + 1, .loop k x, l => if kindOf l = 3 ∧ (rI (textOf l)).2 = k then
       (bJ n (.bound (k+1)) l.tail).bind fun y r=>if k=0 then .got (.mk 19 aU (rI (textOf l)).1 [x,y]) r else bJ n (.loop k (.mk 19 aU (rI (textOf l)).1 [x,y])) r
   else .got x l
 | n+1,.unary,l=>
   if fK l [zZ]=true then (bJ n .unary l.tail).bind fun x r=>.got (.mk 20 aU 0 [x]) r
   else if fK l [OJ]=true then (bJ n .unary l.tail).bind fun x r=>.got (.mk 21 aU 0 [x]) r
   else if fK l [iD]=true then bJ n .asked l
   else if kindOf l=2 then fD l
   else (iL l).bind fun s l=>if fK l [iD]=true then bJ n (.call s) l else bJ n (.place s) l
 | n+1,.asked,l=>(dY iD l).bind fun _ l=>(bJ n .expr l).bind fun x l=>(dY dN l).bind fun _ l=>.got x l
 | n+1,.place s,l=>if fK l [xk]=true then (bJ n .expr l.tail).bind fun x l=>(dY sJ l).bind fun _ l=>.got (.mk 17 s 0 [x]) l else .got (.mk 16 s 0 []) l
 | n+1,.call s,l=>(dY iD l).bind fun _ l=>bJ n (.args s []) l
 | n+1,.args s acc,l=>
   if fK l [dN]=true∧acc.length=0 then (dY dN l).bind fun _ l=>.got (.mk 18 s 0 acc) l
   else (bJ n .expr l).bind fun x l=>if fK l [jS]=true then bJ n (.args s (acc ++ [x])) l.tail else (dY dN l).bind fun _ l=>.got (.mk 18 s 0 (acc ++ [x])) l
 | n+1,.block,l=>(dY yS l).bind fun _ l=>bJ n (.stats []) l
 | n+1,.stats acc,l=>if fK l [FY]=true then .got (.mk 6 aU 0 acc) l.tail else (bJ n .stat l).bind fun x l=>bJ n (.stats (acc ++ [x])) l
 | n+1,.stat,l=>
   if fK l [rH,p_]=true then (dG l).bind fun b l=>(fH l).bind fun s l=>(dY Nh l).bind fun _ l=>(bJ n .expr l).bind fun x l=>kN (.mk 7 s b [x]) l
   else if fK l [ZL]=true then (iL l.tail).bind fun s l=>(bJ n (.call s) l).bind fun x l=>kN (.mk 9 aU 0 [x]) l
   else if fK l [ZM]=true then (bJ n .asked l.tail).bind fun x l=>(bJ n .block l).bind fun b l=>
    if fK l [FZ]=true then (bJ n .block l.tail).bind fun c l=>.got (.mk 10 aU 0 [x,b,c]) l else .got (.mk 10 aU 0 [x,b]) l
   else if fK l [Aa]=true then (bJ n .asked l.tail).bind fun x l=>(bJ n .block l).bind fun b l=>.got (.mk 11 aU 0 [x,b]) l
   else if fK l [OL]=true then (dG l.tail).bind fun b l=>(bJ n .expr l).bind fun x l=>kN (.mk 12 aU b [x]) l
   else if fK l [ZN]=true then (dG l.tail).bind fun b l=>(iL l).bind fun s l=>(bJ n (.place s) l).bind fun x l=>kN (.mk 13 aU b [x]) l
   else if fK l [vP]=true then (bJ n .expr l.tail).bind fun x l=>kN (.mk 14 aU 0 [x]) l
   else (iL l).bind fun s l=>(bJ n (.place s) l).bind fun x l=>(dY Nh l).bind fun _ l=>(bJ n .expr l).bind fun y l=>kN (.mk 8 aU 0 [x,y]) l
 | n+1,.decl,l=>
   let dR:Int:=if fK l [sN]=true then 2 else 0
   let l:=if fK l [sN]=true then l.tail else l
   if fK l [xm]=true then bJ n (.proc dR) l.tail
   else (dG l).bind fun b l=>(fH l).bind fun s l=>
    if fK l [xk]=true then (fD l.tail).bind fun x l=>(dY sJ l).bind fun _ l=>kN (.mk 3 s (b+dR) [x]) l else kN (.mk 3 s (b+dR) []) l
 | n+1,.proc dR,l=>(fH l).bind fun s l=>(dY iD l).bind fun _ l=>bJ n (.params s dR []) l
 | n+1,.params s dR acc,l=>
   let done:List Nd→List Tk→Out Nd:=fun acc l=>(dY dN l).bind fun _ l=>(dG l).bind fun b l=>
    if fK l [oZ]=true then (dG l.tail).bind fun g l=>(bJ n .block l).bind fun x l=>.got (.mk 4 s (dR+b+(4+4*g)) (acc ++ [x])) l
    else (bJ n .block l).bind fun x l=>.got (.mk 4 s (dR+b) (acc ++ [x])) l
   if fK l [dN]=true∧acc.length=0 then done acc l
   else (dG l).bind fun b l=>(fH l).bind fun p l=>if fK l [jS]=true then bJ n (.params s dR (acc ++ [.mk 5 p b []])) l.tail else done (acc ++ [.mk 5 p b []]) l
 | n+1,.module,l=>(dY sK l).bind fun _ l=>(fH l).bind fun s l=>(dY cZ l).bind fun _ l=>bJ n (.imports s []) l
 | n+1,.imports s acc,l=>
   if fK l [vS]=true then (fH l.tail).bind fun p l=>(dY cZ l).bind fun _ l=>bJ n (.imports s (acc ++ [.mk 2 p 0 []])) l
   else bJ n (.decls s acc) l
 | n+1,.decls s acc,l=>if l.length=0 then .got (.mk 1 s 0 acc) l else (bJ n .decl l).bind fun x l=>bJ n (.decls s (acc ++ [x])) l
namespace bu
def H8 (p:Int):List PanicEntry:=[{ v:=.iface 105 (.agg #[.int .i64 p]),recovered:=false }]
def eC {α : Type} (V:α→Value→World→Prop) (W w:World) (S E:Nat) (T:Out α) (e:Ending) (w':World):Prop:=
 aB (fun i=>i=S) w w'∧match T with
  | .out=>True
  | .bad l=>e=.panicked (H8 (posOf E l))
  | .got x l=>∃ v,e=.returned v∧V x v w'∧bz W w' S E l
theorem eC.cases {α : Type} {V:α→Value→World→Prop} {W w:World} {S E:Nat} {T:Out α} {e:Ending} {w':World} (h:eC V W w S E T e w') (hT:T≠.out) :
  aB (fun i=>i=S) w w'∧((∃ l,T=.bad l∧e=.panicked (H8 (posOf E l)))∨∃ x l v,T=.got x l∧e=.returned v∧V x v w'∧bz W w' S E l):=by
 obtain⟨h1,h2⟩:=h;refine⟨h1,?_⟩
 cases T with
 | out=>exact(hT rfl).elim
 | bad l=>exact .inl ⟨l,rfl,h2⟩
 | got x l=>obtain⟨v,h3⟩:=h2;exact .inr ⟨x,l,v,rfl,h3⟩
theorem eC.fails {α : Type} {V:α→Value→World→Prop} {W w:World} {S E:Nat} {w':World} (h:aB (fun i=>i=S) w w') {T:Out α} {l:List Tk} (hr:T=.bad l):eC V W w S E T (.panicked (H8 (posOf E l))) w':=by
 subst hr;exact⟨h,rfl⟩
theorem eC.reads {α : Type} {V:α→Value→World→Prop} {W w:World} {S E:Nat} {w':World} (h:aB (fun i=>i=S) w w') {T:Out α} {x:α} {l:List Tk} (hr:T=.got x l) {v:Value} (hV:V x v w') (hR:bz W w' S E l):eC V W w S E T (.returned v) w':=by
 subst hr;exact⟨h,v,rfl,hV,hR⟩
def WZ (s:ByteArray) (v:Value) (_:World):Prop:=v=.string s∧s.size≤7000
def W6 (b:Int) (v:Value) (_:World):Prop:=v=.int .i64 b∧0≤b∧b≤1
def W7 (_:Unit) (v:Value) (_:World):Prop:=v=.tuple #[]
end bu
end Go.Proofs.YtpcihajmcejliacGreatDoor
namespace Go.Proofs.YtpcihajmcejliacGreatDoor
open Go.RowKit
namespace bu
theorem bG {P:Program} {fn:Func} {p:Tmp} {ty:TypeId} {Q:Ending→World→Prop} {a:Act} {w:World} {A:Nat} {T:TypeId} {cs:Array Value} {d:TypeDesc} (h:fn.results=#[.cell p ty]) (hd:a.defers=[]) (hp:a.tmps[p]?.getD undef=.pointer (some ⟨A,0,none⟩)) (hA:aC w A cs T)
  (hu:P.underlying ty=some d) (hd2:(match d with|.struct _|.array _ _=>true|_=>false)=true) (hi:(P.info? ty).map (·.size)=some cs.size) (hq:Q (.returned (.agg cs)) w):bodyPost P fn Q .ret a w:=by
 refine bodyPost_ret (v:=.agg cs) ?_ hd hq
 simp [results,h,hp,asAddr,run_loadVar_row w A T ty cs (0,0) d hA hu hd2 hi]
def H9 (t:Tk):Value:=.agg #[.int .i64 t.kind,.string t.text,.int .i64 t.at_]
def sO (E:Nat):List Tk→Tk
 | []=>⟨0,⟨#[]⟩,E⟩
 | t::_=>t
theorem SQ (E:Nat) (l:List Tk):(sO E l).at_=posOf E l:=by cases l<;>rfl
theorem F5 (E:Nat) (l:List Tk):(sO E l).kind=kindOf l:=by cases l<;>rfl
theorem OM (E:Nat) (l:List Tk):(sO E l).text=textOf l:=by cases l<;>rfl
set_option maxRecDepth 100000 in
set_option maxHeartbeats 1000000 in
theorem oz {W w:World} {S E:Nat} {l:List Tk} (h:bz W w S E l) :
  Calls Tryz.prog 174 #[.pointer (some ⟨S,0,none⟩)] w fun e w'=>e=.returned (H9 (sO E l))∧Ext w w':=by
 obtain⟨a,n,c,k,hb,h1,h2,h3⟩:=h.ex;have hA:=aC.made w #[.int .i64 0,.string ⟨#[]⟩,.int .i64 0] 195;have hX:=(aB.refl (fun _=>False) w).alloc (.cells #[.int .i64 0,.string ⟨#[]⟩,.int .i64 0] 195);have hb2:=hb.alloc (.cells #[.int .i64 0,.string ⟨#[]⟩,.int .i64 0] 195);have hbl:=hb.lt;have hc0:=hb2.cell 0;have hc1:=hb2.cell 1;have hc2:=hb2.cell 2;simp at hc0 hc1 hc2
 have hf:=hb2.frozen;cases l with
 | nil=>
  simp only [List.length_nil,Nat.add_zero] at h1;subst h1;have HX:=Z_ hX;have HA:=Z_ hA;clear h3 hX h hb hb2 hA;go_enter Tryz.func174,Tryz.ntmps174
  go_wp2_with fail
  go_quiet (fail)
  have hA2:=HA.out.drewN nq;have Ew:=Z_ (HX.out.drewN nq);have hc:=hA2.cell;have DU:=hA2.frozen;have hl2:=hA2.lt;have ak0:(World.drewN (w.alloc (.cells #[.int .i64 0,.string ⟨#[]⟩,.int .i64 0] 195)) nq).cell? ⟨S,2,none⟩=some (.int .i64 E):=hc2;generalize World.drewN (w.alloc (.cells #[.int .i64 0,.string ⟨#[]⟩,.int .i64 0] 195)) nq=w2 at *;clear hc0 hc1 hc2 hf HX HA;go_wp2_with fail
  refine bG rfl rfl rfl (((hA2.set 0 _).set 1 _).set 2 _) Tryz.underlying195 rfl (by kernel_rfl) ?_
  exact⟨rfl,((Ew.out.bI (p:=⟨w.heap.size,0,none⟩) (by simp) _).bI (p:=⟨w.heap.size,1,none⟩) (by simp) _).bI (p:=⟨w.heap.size,2,none⟩) (by simp) _⟩
 | cons t r=>
  obtain⟨b,o,rfl,hbb,ht⟩:=h3 0 (by simp);obtain⟨t0,t1,t2,-⟩:=ht;have hW:=h.ext.ext hX;have hbW:=Nat.lt_of_lt_of_le hbb hW.size;have e:∀ i,(w.alloc (.cells #[.int .i64 0,.string ⟨#[]⟩,.int .i64 0] 195)).cell? ⟨b,i,none⟩=W.cell? ⟨b,i,none⟩:=fun i=>hW.cell (by exact hbb) id
  rw [←e] at t0 t1 t2;simp only [Nat.add_zero,List.getElem_cons_zero] at t0 t1 t2;have hkn:(k:Int)<(n:Int):=by simp at h1;omega
  have HX:=Z_ hX;have HA:=Z_ hA;clear h3 hX h hb hb2 hA e hW h1;obtain⟨tk,tt,ta⟩:=t;simp only at t0 t1 t2;go_enter Tryz.func174,Tryz.ntmps174
  go_wp2_with fail
  go_quiet (fail)
  have hA2:=HA.out.drewN nq;have Ew:=Z_ (HX.out.drewN nq);have hc:=hA2.cell;have DU:=hA2.frozen;have hl2:=hA2.lt;replace t0:(World.drewN (w.alloc (.cells #[.int .i64 0,.string ⟨#[]⟩,.int .i64 0] 195)) nq).cell? ⟨b,o+k*3,none⟩=_:=t0;replace t1:(World.drewN (w.alloc (.cells #[.int .i64 0,.string ⟨#[]⟩,.int .i64 0] 195)) nq).cell? ⟨b,o+k*3+1,none⟩=_:=t1;replace t2:(World.drewN (w.alloc (.cells #[.int .i64 0,.string ⟨#[]⟩,.int .i64 0] 195)) nq).cell? ⟨b,o+k*3+2,none⟩=_:=t2;replace hc0:(World.drewN (w.alloc (.cells #[.int .i64 0,.string ⟨#[]⟩,.int .i64 0] 195)) nq).cell? ⟨S,0,none⟩=_:=hc0;replace hc1:(World.drewN (w.alloc (.cells #[.int .i64 0,.string ⟨#[]⟩,.int .i64 0] 195)) nq).cell? ⟨S,1,none⟩=_:=hc1;generalize World.drewN (w.alloc (.cells #[.int .i64 0,.string ⟨#[]⟩,.int .i64 0] 195)) nq=w2 at *
  clear hc2 hf HX HA;go_wp2_with fail
  go_still_tail 10,(by kernel_rfl)
  change wpList _ _ _ _ _ w2.drew
  have hA3:=hA2.drew;have hc:=hA3.cell;have DU:=hA3.frozen;have hl2:=hA3.lt;have qU:=Z_ Ew.out.drew;clear t0 t1 t2 hc0 hc1 hA2 Ew;generalize w2.drew=w3 at *;go_wp2_with fail
  refine bG rfl rfl rfl (((hA3.set 0 _).set 1 _).set 2 _) Tryz.underlying195 rfl (by kernel_rfl) ?_
  exact⟨rfl,((qU.out.bI (p:=⟨w.heap.size,0,none⟩) (by simp) _).bI (p:=⟨w.heap.size,1,none⟩) (by simp) _).bI (p:=⟨w.heap.size,2,none⟩) (by simp) _⟩
theorem nN {w w':World} (h:Ext w w') (S:Nat):aB (fun i=>i=S) w w':=h.weak fun _ _ h=>h.elim
theorem ai {w u:World} {S:Nat} (h:aB (fun i=>i=S) w u) (o:Nat) (v:Value):aB (fun i=>i=S) w (u.setCell ⟨S,o,none⟩ v):=h.setCell (p:=⟨S,o,none⟩) (fun _=>rfl) v
theorem F6 {W w:World} {S E:Nat} {t:Tk} {r:List Tk} (h:bz W w S E (t::r)):jF t:=by
 obtain⟨a,n,c,k,hb,h1,h2,h3⟩:=h.ex;obtain⟨b,o,-,-,ht⟩:=h3 0 (by simp);exact ht.ok
theorem vT {W w:World} {S E:Nat} {t:Tk} {r:List Tk} (h:bz W w S E (t::r)):∃ k:Nat,w.cell? ⟨S,1,none⟩=some (.int .i64 k)∧k<10000∧bz W (w.setCell ⟨S,1,none⟩ (.int .i64 ((k:Int)+1))) S E r:=by
 obtain⟨a,n,c,k,hb,h1,h2,h3⟩:=h.ex;refine⟨k,hb.cell 1,by simp at h1;omega,⟨a,n,c,k+1,?_,by simp at h1;omega,h2,h3.tail⟩,h.ext.bI h.hS _,h.hS⟩
 have:=hb.set 1 (.int .i64 ((k:Int)+1));exact this
theorem xu {W w:World} {S E:Nat} {l:List Tk} (h:bz W w S E l):∃ a n c k,aC w S #[.slice a n c,.int .i64 (k:Nat),.int .i64 (E:Nat)] 108∧k+l.length=n∧n≤10000:=by
 obtain⟨a,n,c,k,hb,h1,h2,h3⟩:=h.ex;exact⟨a,n,c,k,hb,h1,h2⟩
theorem KT (a b c:Value) (w:World):(Instr.field 195 (.agg #[a,b,c]) 2).run Tryz.prog w=.ok c w:=by
 unfold Instr.field;simp [asAgg,part,run_underlying Tryz.underlying195]
theorem Ez (a b c:Value) (w:World):(Instr.field 195 (.agg #[a,b,c]) 0).run Tryz.prog w=.ok a w:=by
 unfold Instr.field;simp [asAgg,part,run_underlying Tryz.underlying195]
set_option maxRecDepth 100000 in
set_option maxHeartbeats 1000000 in
theorem xw {W w:World} {S E:Nat} {l:List Tk} (h:bz W w S E l) :
  Calls Tryz.prog 173 #[.pointer (some ⟨S,0,none⟩)] w fun e w'=>e=.panicked (H8 (posOf E l))∧Ext w w':=by
 have HC:=Z_ (oz h);rw [←SQ];clear h;generalize sO E l=t at HC ⊢;obtain⟨tk,tt,ta⟩:=t;go_enter Tryz.func173,Tryz.ntmps173
 go_wp2_with fail
 refine HC.out.mono ?_
 rintro e w' ⟨rfl,hE⟩;unfold H9;have hfi:=KT (.int .i64 tk) (.string tt) (.int .i64 ta) w';go_wp2_with fail
 exact⟨rfl,rfl,hE⟩
theorem str_eq {a b:ByteArray}:(a.toList == b.toList)=decide (a=b):=by
 rw [ByteArray.toList_eq,ByteArray.toList_eq,Bool.eq_iff_iff];simp only [beq_iff_eq,decide_eq_true_eq];constructor
 ·intro h;exact ByteArray.ext (Array.ext' h)
 ·rintro rfl;rfl
theorem KU {ws:List ByteArray} {s:ByteArray} {j:Nat} (h:j<ws.length):((ws.drop j).any fun x=>decide (s=x))=(decide (s=ws[j]) || ((ws.drop (j+1)).any fun x=>decide (s=x))):=by
 rw [List.drop_eq_getElem_cons h,List.any_cons]
set_option maxRecDepth 100000 in
set_option maxHeartbeats 1000000 in
theorem qw (g:Nat) (ws:List ByteArray) (n c:Nat) (s:ByteArray) (w:World) (hn:ws.length=n) (hm:n≤100) (hws:∀ j (h:j<ws.length),w.cell? ⟨g,j,none⟩=some (.string ws[j])) :
  Calls Tryz.prog 275 #[.slice (some ⟨g,0,none⟩) n c,.string s] w fun e w'=>Ext w w'∧∃ i:Int,e=.returned (.int .i64 i)∧decide (0≤i)=ws.any fun x=>decide (s=x):=by
 obtain⟨R,hR⟩:∃ R,(ws.any fun x=>decide (s=x))=R:=⟨_,rfl⟩;rw [hR];have HW:=Z_ hws;have HN:=Z_ hn;have HR:=Z_ hR;clear hws hn hR;go_enter Tryz.func275,Tryz.ntmps275
 go_wp2_with fail
 go_loopw [8] (fun i wr=>∃ k:Nat,k≤n∧i=.int .i64 k∧w=wr∧Hid (((ws.drop k).any fun x=>decide (s=x))=R)) (fun i _=>n-(intOf i).toNat)
 case atStart=>exact⟨0,Nat.zero_le _,rfl,rfl,HR⟩
 case round=>
  obtain⟨k,hk,rfl,rfl,hr⟩:=hrel;by_cases hlt:k<n
  ·have hkl:k<ws.length:=by rw [HN.out];exact hlt
   have hki:(k:Int)<(n:Int):=by omega
   have h0:=HW.out k hkl;have hr2:=hr.out;rw [KU hkl] at hr2;generalize ws[k]=x at *;by_cases e:s=x
   ·subst e
    have HT:=Z_ (show R=true by rw [←hr2];simp);have he:(s.toList == s.toList)=true:=by simp
    clear hr2 hr;go_wp2_with fail
    go_ret
    refine⟨aB.refl _ _,(k:Int),rfl,?_⟩
    rw [HT.out];simp
   ·have he:(s.toList == x.toList)=false:=by rw [str_eq];simpa using e
    have HT:=Z_ (show ((ws.drop (k+1)).any fun x=>decide (s=x))=R by rw [←hr2];simp [e]);clear hr2 hr;go_wp2_with fail
    go_roundw
    case rel=>exact⟨k+1,by omega,by go_num,trivial,HT⟩
    case measure=>simp [intOf];omega
  ·obtain rfl:k=n:=by omega
   have HT:=Z_ (show R=false by have:=hr.out;rw [List.drop_of_length_le (by rw [HN.out];exact Nat.le_refl _)] at this;rw [←this];rfl);clear hr;go_wp2_with fail
   go_ret
   exact⟨aB.refl _ _,-1,rfl,by rw [HT.out];rfl⟩
set_option maxRecDepth 100000 in
theorem Ac (g:Nat) (ws:List ByteArray) (n c:Nat) (s:ByteArray) (w:World) (hn:ws.length=n) (hm:n≤100) (hws:∀ j (h:j<ws.length),w.cell? ⟨g,j,none⟩=some (.string ws[j])) :
  Calls Tryz.prog 228 #[.slice (some ⟨g,0,none⟩) n c,.string s] w fun e w'=>e=.returned (.bool (ws.any fun x=>decide (s=x)))∧Ext w w':=by
 have HC:=Z_ (qw g ws n c s w hn hm hws);obtain⟨R,hR⟩:∃ R,(ws.any fun x=>decide (s=x))=R:=⟨_,rfl⟩;rw [hR] at HC ⊢;clear hws hn hR;go_enter Tryz.func228,Tryz.ntmps228
 go_wp2_with fail
 refine HC.out.mono ?_
 rintro e w' ⟨hE,i,rfl,hi⟩;subst hi;go_wp2_with fail
 go_ret
 exact⟨by simp,hE⟩
set_option maxRecDepth 100000 in
set_option maxHeartbeats 1000000 in
theorem uq {W w:World} {S E:Nat} {l:List Tk} (h:bz W w S E l) (g:Nat) (ws:List ByteArray) (n c:Nat) (hn:ws.length=n) (hm:n≤100) (hws:∀ j (h:j<ws.length),w.cell? ⟨g,j,none⟩=some (.string ws[j])) (hg:g<w.heap.size) :
  Calls Tryz.prog 175 #[.pointer (some ⟨S,0,none⟩),.slice (some ⟨g,0,none⟩) n c] w fun e w'=>e=.returned (.bool (fK l ws))∧Ext w w':=by
 have HC:=Z_ (oz h)
 have hcon:∀ (s:ByteArray) (u:World),Ext w u→Calls Tryz.prog 228 #[.slice (some ⟨g,0,none⟩) n c,.string s] u fun e w'=>e=.returned (.bool (ws.any fun x=>decide (s=x)))∧Ext u w':=
  fun s u hE=>Ac g ws n c s u hn hm fun j hj=>by rw [hE.cell (by exact hg) id];exact hws j hj
 have ae0:=Z_ hcon;obtain⟨R,hR⟩:∃ R,fK l ws=R:=⟨_,rfl⟩;rw [hR]
 have hk:∀ t∈l.head?,jF t:=by
  cases l with
  | nil=>intro t ht;cases ht
  | cons t r => intro t' ht; obtain rfl : t = t' := by simpa using ht
                exact F6 h
 have HK:=Z_ hk;have HR:=Z_ hR;clear hws hn hR h hcon hk;cases l with
 | nil=>
  have hRf:R=false:=HR.out.symm;subst hRf;clear HR HK;simp only [sO] at HC;go_enter Tryz.func175,Tryz.ntmps175
  go_wp2_with fail
  refine HC.out.mono ?_
  rintro e w1 ⟨rfl,hE⟩;unfold H9;have hA:=aC.made w1 #[.int .i64 0,.string ⟨#[]⟩,.int .i64 E] 195;have hE2:=hE.alloc (.cells #[.int .i64 0,.string ⟨#[]⟩,.int .i64 E] 195);go_wp2_with fail
  go_ret
  exact⟨rfl,hE2⟩
 | cons t r=>
  have ho:=HK.out t rfl;obtain⟨tk,tt,ta⟩:=t;have hr:=HR.out;simp only [fK] at hr;simp only [sO] at HC;have hk1:=ho.kinds;simp only at hk1;clear HR HK ho;by_cases hk2:tk=2
  ·subst hk2
   have hRf:R=false:=by rw [←hr];rfl
   subst hRf;clear hr;go_enter Tryz.func175,Tryz.ntmps175
   go_wp2_with fail
   refine HC.out.mono ?_
   rintro e w1 ⟨rfl,hE⟩;unfold H9;have hE2:=hE.alloc (.cells #[.int .i64 2,.string tt,.int .i64 ta] 195);go_wp2_with fail
   go_ret
   exact⟨rfl,hE2⟩
  ·have hr2:(ws.any fun s=>decide (tt=s))=R:=by rw [←hr];simp [hk2]
   have HR2:=Z_ hr2;have hb2:(tk != 2)=true:=by simpa using hk2
   have hb0:(tk != 0)=true:=by simp;omega
   clear hr hr2;go_enter Tryz.func175,Tryz.ntmps175
   go_wp2_with fail
   refine HC.out.mono ?_
   rintro e w1 ⟨rfl,hE⟩;unfold H9;have hE2:=hE.alloc (.cells #[.int .i64 tk,.string tt,.int .i64 ta] 195);go_wp2_with fail
   refine(ae0.out tt _ hE2).mono ?_
   rintro e w2 ⟨rfl,rU⟩;rw [HR2.out];go_wp2_with fail
   go_ret
   exact⟨rfl,hE2.ext rU⟩
theorem KW {l:List Tk} {ws:List ByteArray} (h:fK l ws=true):∃ t r,l=t::r:=by
 cases l with
 | nil=>cases h
 | cons t r=>exact⟨t,r,rfl⟩
set_option maxRecDepth 100000 in
set_option maxHeartbeats 1000000 in
theorem dh {W w:World} {S E:Nat} {l:List Tk} (h:bz W w S E l) (s:ByteArray) :
  Calls Tryz.prog 97 #[.pointer (some ⟨S,0,none⟩),.string s] w
   fun e w'=>e=.returned (.bool (fK l [s]))∧aB (fun i=>i=S) w w'∧bz W w' S E (if fK l [s]=true then l.tail else l):=by
 have hS:=h.lt;have hP1:=h.alloc (.cells #[.string s] 9)
 have HC:=Z_ (uq hP1 w.heap.size [s] 1 1 rfl (by decide) (fun j hj=>by
  obtain rfl:j=0:=by simpa using hj
  exact(aC.made w #[.string s] 9).cell 0) (by simp))
 have hC0:aB (fun i=>i=S) w (w.alloc (.cells #[.string s] 9)):=(aB.refl _ _).alloc _;have HP:=Z_ (fun u (hE:Ext (w.alloc (.cells #[.string s] 9)) u)=>hP1.extend hE);have hl:=@KW l [s];generalize fK l [s]=R at *;clear h hP1;cases R with
 | false=>
  clear hl;go_enter Tryz.func97,Tryz.ntmps97
  go_wp2_with fail
  refine HC.out.mono ?_
  rintro e w1 ⟨rfl,hE⟩;go_wp2_with fail
  go_ret
  exact⟨rfl,hC0.ext hE,HP.out _ hE⟩
 | true=>
  obtain⟨t,r,rfl⟩:=hl rfl;go_enter Tryz.func97,Tryz.ntmps97
  go_wp2_with fail
  refine HC.out.mono ?_
  rintro e w1 ⟨rfl,hE⟩;have hP:=HP.out _ hE;obtain⟨k,hk,hk2,oU⟩:=vT hP;obtain⟨a',n',c',k',hB,-,-⟩:=xu hP;have hf:=hB.frozen 1;have hSl:=hB.lt;have hkw:IntKind.i64.wrap ((k:Int)+1)=(k:Int)+1:=by unfold IntKind.wrap;simp only [IntKind.bits,IntKind.signed];simp;omega
  have HP2:=Z_ oU;clear oU hP hB;go_wp2_with fail
  go_ret
  exact⟨rfl,(hC0.ext hE).setCell (p:=⟨S,1,none⟩) (fun _=>rfl) _,HP2.out⟩
set_option maxRecDepth 100000 in
set_option maxHeartbeats 1000000 in
theorem b_ {W w:World} {S E:Nat} {l:List Tk} (h:bz W w S E l) (g c:Nat) (s:ByteArray) (hg:w.cell? ⟨g,0,none⟩=some (.string s)) :
  Calls Tryz.prog 94 #[.pointer (some ⟨S,0,none⟩),.slice (some ⟨g,0,none⟩) 1 c] w (eC W7 W w S E (dY s l)):=by
 have HC:=Z_ (dh h s);have yh:=Z_ (fun (u:World) (h:bz W u S E l)=>xw h);have hT:dY s l=if fK l [s]=true then .got () l.tail else .bad l:=rfl
 obtain⟨T,hT2⟩:∃ T,dY s l=T:=⟨_,rfl⟩;rw [hT2];rw [hT2] at hT;clear hT2;generalize fK l [s]=R at *;have HT:=Z_ hT;clear h hT;go_enter Tryz.func94,Tryz.ntmps94
 go_wp2_with fail
 go_loopw [8] (fun i wr=>∃ k:Nat,i=.int .i64 k∧((k=0∧w=wr)∨(k=1∧Hid (R=true∧aB (fun i=>i=S) w wr∧bz W wr S E l.tail)))) (fun i _=>1-(intOf i).toNat)
 case atStart=>exact⟨0,rfl,.inl ⟨rfl,rfl⟩⟩
 case round=>
  obtain⟨k,rfl,⟨rfl,rfl⟩|⟨rfl,hr⟩⟩:=hrel
  ·go_wp2_with fail
   refine HC.out.mono ?_
   rintro e w1 ⟨rfl,hC,hP⟩;cases R with
   | true=>
    have HR:=Z_ (show true=true∧aB (fun i=>i=S) w w1∧bz W w1 S E l.tail from⟨rfl,hC,by simpa using hP⟩);clear hC hP;go_wp2_with fail
    go_roundw
    case rel=>exact⟨1,rfl,.inr ⟨rfl,HR⟩⟩
    case measure=>simp [intOf]
   | false=>
    have oU:bz W w1 S E l:=by simpa using hP
    have HC2:=Z_ hC;have HF:=Z_ (yh.out _ oU);clear hC hP oU;go_wp2_with fail
    refine HF.out.mono ?_
    rintro e w2 ⟨rfl,hE⟩;go_wp2_with fail
    exact⟨rfl,eC.fails (HC2.out.ext hE) (by simpa using HT.out)⟩
  ·go_wp2_with fail
   go_end0
   obtain⟨rfl,hC,hP⟩:=hr.out;exact eC.reads hC (by simpa using HT.out) rfl hP
set_option maxRecDepth 100000 in
set_option maxHeartbeats 1000000 in
theorem dH (k m:Int) (s:ByteArray) (a:Option Addr) (n c:Nat) (w:World) :
  Calls Tryz.prog 95 #[.int .i64 k,.string s,.int .i64 m,.slice a n c] w fun e w'=>e=.returned (.agg #[.int .i64 k,.string s,.int .i64 m,.slice a n c])∧Ext w w':=by
 obtain⟨N,hN⟩:∃ N,w.heap.size=N:=⟨_,rfl⟩;have hA:=aC.made w #[.int .i64 0,.string ⟨#[]⟩,.int .i64 0,.slice none 0 0] 24;have hX:=(aB.refl (fun _=>False) w).alloc (.cells #[.int .i64 0,.string ⟨#[]⟩,.int .i64 0,.slice none 0 0] 24);rw [hN] at hA;have hc:=hA.cell;have hf:=hA.frozen;have hl:=hA.lt;have HX:=Z_ hX;have HA:=Z_ hA;clear hX hA;go_enter Tryz.func95,Tryz.ntmps95
 go_wp2_with fail
 have hB:=aC.made w #[.int .i64 k,.string s,.int .i64 m,.slice a n c] 24;rw [hN] at hB;refine bG rfl rfl rfl hB Tryz.underlying24 rfl (by kernel_rfl) ?_
 exact⟨rfl,(aB.refl _ _).alloc _⟩
set_option maxRecDepth 100000 in
set_option maxHeartbeats 1000000 in
theorem dF {W w:World} {S E:Nat} {l:List Tk} (h:bz W w S E l) :
  Calls Tryz.prog 177 #[.pointer (some ⟨S,0,none⟩)] w (eC W6 W w S E (dG l)):=by
 have HC:=Z_ (dh h p_);have hT:dG l=if fK l [p_]=true then .got 1 l.tail else (dY rH l).bind fun _ l=>.got 0 l:=rfl
 obtain⟨T,hT2⟩:∃ T,dG l=T:=⟨_,rfl⟩;rw [hT2];rw [hT2] at hT;clear hT2;generalize fK l [p_]=R at *;have HT:=Z_ hT;clear h hT;go_enter Tryz.func177,Tryz.ntmps177
 go_wp2_with fail
 refine HC.out.mono ?_
 rintro e w1 ⟨rfl,hC,hP⟩;cases R with
 | true=>
  have oU:bz W w1 S E l.tail:=by simpa using hP
  have HR:=Z_ (eC.reads (V:=W6) hC HT.out ⟨rfl,by decide,by decide⟩ oU);clear hC hP oU;go_wp2_with fail
  go_ret
  exact HR.out
 | false=>
  have oU:bz W w1 S E l:=by simpa using hP
  have HN:=Z_ (b_ (oU.alloc (.cells #[.string rH] 9)) w1.heap.size 1 rH ((aC.made w1 #[.string rH] 9).cell 0));have hC2:=hC.alloc (.cells #[.string rH] 9);have HC2:=Z_ hC2;have HT2:=Z_ (show (dY rH l).bind (fun _ l=>.got 0 l)=T by have:=HT.out;simpa using this.symm);clear hC hP oU hC2 HT;go_wp2_with fail
  refine HN.out.mono ?_
  rintro e w2 hr;have hne:dY rH l≠.out:=by unfold dY;split<;>intro h<;>cases h
  obtain⟨nU,⟨l2,hp,rfl⟩|⟨x,l2,v,hp,rfl,rfl,Jc⟩⟩:=hr.cases hne
  ·have HF:=Z_ (Out.aF HT2.out hp)
   have wu:=Z_ (HC2.out.then nU);clear hr hp nU hne;go_wp2_with fail
   exact⟨rfl,eC.fails wu.out HF.out⟩
  ·have HF:=Z_ (Out.aG HT2.out hp)
   have wu:=Z_ (HC2.out.then nU);have UH:=Z_ Jc;clear hr hp nU hne Jc;go_wp2_with fail
   go_ret
   exact eC.reads wu.out HF.out.symm ⟨rfl,by decide,by decide⟩ UH.out
end bu
end Go.Proofs.YtpcihajmcejliacGreatDoor
namespace Go.Proofs.YtpcihajmcejliacGreatDoor
open Go.RowKit
def cE (w:World):Prop:=∃ m,w.cell? ⟨1,0,none⟩=some (.int .i64 m)
theorem cE.aK {S:Nat→Prop} {w w':World} (h:cE w) (hc:aB S w w') (hn:¬ S 1):cE w':=by
 obtain⟨m,h⟩:=h;have hl:=World.block_lt_of_cell? w _ h;exact⟨m,by rw [hc.cell hl hn];exact h⟩
theorem cE.ext {w w':World} (h:cE w) (hc:Ext w w'):cE w':=h.aK hc id
namespace name
theorem uu (s:ByteArray):s.data.toList.length=s.size:=by rw [Array.length_toList];rfl
set_option maxRecDepth 100000 in
set_option maxHeartbeats 1000000 in
theorem rF (s:ByteArray) (w:World) (hs:s.size≤9223372036854775807) (hv:ErrVar w) (hm:cE w) :
  Calls Tryz.prog 56 #[.string s] w fun e w'=>e=.returned (.bool (nameB s.data.toList))∧Ext w w':=by
 generalize hR:nameB s.data.toList=R;have hRR:=hR;rw [nameB] at hRR;have HR:=Z_ hRR;clear hR hRR;obtain⟨T,hT⟩:∃ T,iP s.data.toList=T:=⟨_,rfl⟩;have C1:=Z_ (fun w hv=>lexTells.BU s w hs hv T hT);have hword:jH s.data.toList=true→T=([(1,0,s.size)],0,0):=fun h=>by rw [←hT,H_ _ h,uu]
 have HT:=Z_ hT;obtain⟨l,c,a⟩:=T;simp only at C1;clear hT;go_enter Tryz.func56,Tryz.ntmps56
 go_wp2_with fail
 refine(C1.out _ hv).mono ?_
 rintro e w1 ⟨v,rfl,ho,hE⟩;have hfalse:jH s.data.toList=false→R=false:=fun h=>by rw [←HR.out,h];rfl
 by_cases hc:c=0
 ·subst hc
  by_cases hl:l.length=1
  ·obtain⟨⟨kd,p,n⟩,rfl⟩:=List.length_eq_one_iff.1 hl
   obtain⟨g,cap,rfl⟩:∃ g cap,v=.slice (some ⟨g,0,none⟩) 1 cap:=by
    rcases ho.2 with ⟨_,h⟩|⟨g,cap,cur,rfl,_⟩
    ·cases h
    ·exact⟨g,cap,rfl⟩
   have a0:w1.cell? ⟨g,0,none⟩=some (.int .i64 kd):=(ho.cellAt 0 (by decide)).trans rfl;have a1:w1.cell? ⟨g,1,none⟩=some (.string (s.extract p (p+n))):=(ho.cellAt 1 (by decide)).trans rfl;have hg:g<w1.heap.size:=(ho.lt g rfl).2;have hE1:=Z_ (hE.alloc (.cells #[.int .i64 0,.int .i64 a] 27));by_cases hk:kd=1
   ·subst hk
    by_cases ht:(s.data.toList.drop p).take n=s.data.toList
    ·have hw:=Ad _ p n a HT.out ht
     have hx:s.extract p (p+n)=s:=by
      apply ByteArray.ext
      apply Array.ext'
      rw [lex.jc];exact ht
     have hcw:=qg _ hw;have hR2:R = !jb.contains s.data.toList:=by rw [←HR.out,hw];rfl
     have h16:s.size≤16:=by
      simp only [jH,Bool.and_eq_true,decide_eq_true_eq,uu] at hw;exact hw.1.2
     obtain⟨B,hB⟩:∃ B,jb.contains s.data.toList=B:=⟨_,rfl⟩;rw [hB] at hcw hR2;obtain⟨m,hm2⟩:=(hm.ext (hE.alloc (.cells #[.int .i64 0,.int .i64 a] 27)))
     have hsub:((⟨#[32]⟩:ByteArray)++s++⟨#[32]⟩).data.toList=32::(s.data.toList ++ [32]):=by
      simp [ByteArray.data_append]
     have cc:=Tryz.strings_Contains ⟨#[32,100,111,32,101,108,115,101,32,103,105,118,101,115,32,104,105,103,104,32,105,102,32,105,109,112,111,114,116,32,105,110,32,108,111,119,32,109,111,100,117,108,101,32,111,117,116,32,112,114,111,99,32,112,117,98,32,114,101,116,117,114,110,32,119,104,105,108,101,32]⟩ ((⟨#[32]⟩:ByteArray)++s++⟨#[32]⟩) m _ (by decide) hm2;rw [hsub] at cc;have CC:=Z_ cc;have HCW:=Z_ hcw;rw [hx] at a1;clear cc hm2 hsub hcw hB ho hx hw ht hword hfalse hl;go_wp2_with fail
     refine CC.out.mono ?_
     rintro e w' ⟨rfl,rfl⟩;rw [HCW.out];go_wp2_with fail
     go_ret
     exact⟨bW hR2.symm,hE1.out⟩
    ·have hnw:jH s.data.toList=false:=by
      cases hw:jH s.data.toList
      ·rfl
      ·have:=hword hw
       have e1:=congrArg (fun T:List Tok×Int×Nat=>(T.1.map (·.2.1),T.1.map (·.2.2))) this;simp at e1
       obtain⟨rfl,rfl⟩:=e1;exact absurd (by rw [List.drop_zero,List.take_of_length_le (by rw [uu];exact Nat.le_refl _)]) ht
     have hF:=hfalse hnw;obtain⟨x,hx⟩:∃ x,s.extract p (p+n)=x:=⟨_,rfl⟩
     have hxs:x≠s:=by
      intro h;rw [h] at hx;exact ht (by rw [←lex.jc,hx])
     rw [hx] at a1
     have h2:(x.toList == s.toList)=false:=by
      rw [ByteArray.toList_eq,ByteArray.toList_eq,beq_eq_false_iff_ne];intro h;exact hxs (ByteArray.ext (Array.ext' h))
     have h3:(x.data.toList == s.data.toList)=false:=by
      rw [beq_eq_false_iff_ne];intro h;exact hxs (ByteArray.ext (Array.ext' h))
     clear ho hx hnw hword hfalse hl ht hxs;go_wp2_with fail
     go_ret
     exact⟨bW hF.symm,hE1.out⟩
   ·have hF:=hfalse (by
     cases hw:jH s.data.toList
     ·rfl
     ·have:=hword hw
      have e1:=congrArg (fun T:List Tok×Int×Nat=>T.1.map (·.1)) this;simp at e1
      exact absurd e1 hk)
    have hkd:(kd == 1)=false:=by rw [beq_eq_false_iff_ne];exact hk
    clear ho hword hfalse hl hk;go_wp2_with fail
    go_ret
    exact⟨bW hF.symm,hE1.out⟩
  ·have hF:=hfalse (by
    cases hw:jH s.data.toList
    ·rfl
    ·have:=hword hw
     simp only [Prod.mk.injEq] at this;rw [this.1] at hl;exact absurd rfl hl)
   obtain⟨g,n,cap,rfl,hn⟩:∃ g n cap,v=.slice g n cap∧n=l.length:=by
    rcases ho.2 with ⟨rfl,h⟩|⟨g,cap,cur,rfl,_⟩
    ·exact⟨_,_,_,rfl,h.symm⟩
    ·exact⟨_,_,_,rfl,rfl⟩
   have hnl:((n:Int) == 1)=false:=by rw [beq_eq_false_iff_ne];omega
   clear ho hword hfalse hl hn;go_wp2_with fail
   go_ret
   exact⟨bW hF.symm,hE.alloc _⟩
 ·have hF:=hfalse (by
   cases hw:jH s.data.toList
   ·rfl
   ·have:=hword hw
    simp only [Prod.mk.injEq] at this;exact absurd this.2.1 hc)
  have hcc:(c == 0)=false:=by rw [beq_eq_false_iff_ne];exact hc
  clear ho hword hfalse hc;go_wp2_with fail
  go_ret
  exact⟨bW hF.symm,hE.alloc _⟩
end name
namespace W8
end W8
end Go.Proofs.YtpcihajmcejliacGreatDoor
