/- Nodes and tokens in plain Lean, how they lie in memory, and what the parser comes to. The parser in plain Lean: what is read makes the rest shorter. The walk of the program's parser: peek, fail, is, have, need, name, whole, label, node, number. The walks of syntax.IsName and of the reference's Name. -/
import Derived.Test.YtpcihajmcejliacGreatDoorProg
import Derived.WalkKit
import Derived.WalkSpells
import Derived.Deep.RegionHeld3
import Derived.BigQuiet
import Derived.Deep.QuietTactic
import Derived.StillTailTactics
import Derived.Deep.CutBlock
import Derived.Deep.DeepCutAuto
import Derived.Test.YtpcihajmcejliacGreatDoorLexNumm
import Derived.Test.YtpcihajmcejliacGreatDoorNameMathm
namespace Go.Proofs.YtpcihajmcejliacGreatDoor
open Go.RowKit
inductive Nd where
 | mk (kind:Int) (text:ByteArray) (num:Int) (kids:List Nd)
def Nd.kids:Nd→List Nd
 | .mk _ _ _ l=>l
theorem Nd.kZ (k:Int) (t:ByteArray) (m:Int) (l:List Nd) (j:Nat) (h:j<l.length):SizeOf.sizeOf l[j]<SizeOf.sizeOf (Nd.mk k t m l):=by
 have h1:=List.sizeOf_lt_of_mem (List.getElem_mem h);have h2:SizeOf.sizeOf (Nd.mk k t m l)=1+SizeOf.sizeOf k+SizeOf.sizeOf t+SizeOf.sizeOf m+SizeOf.sizeOf l:=by simp
 omega
theorem oP {P:Nd→Prop} (h:∀ k t m l,(∀ x∈l,P x)→P (.mk k t m l)):∀ x,P x:=by
 have:∀ n x,SizeOf.sizeOf x≤n→P x:=by
  intro n;induction n with
  | zero=>
   intro x hx;cases x;simp at hx
  | succ n ih=>
   intro x hx;cases x with
   | mk k t m l=>
    refine h k t m l fun y hy=>ih y ?_
    obtain⟨j,hj,rfl⟩:=List.getElem_of_mem hy;have:=Nd.kZ k t m l j hj;omega
 exact fun x=>this _ x (Nat.le_refl _)
def fE (w:World):Nd→Value→Prop
 | .mk k t m l,v=>∃ a c,v=.agg #[.int .i64 k,.string t,.int .i64 m,.slice a l.length c]∧l.length≤c∧c≤maxLen∧t.size≤10000∧
   ∀ (j:Nat) (h:j<l.length),∃ b o,a=some ⟨b,o,none⟩∧b<w.heap.size∧∃ u,fE w l[j] u∧u.cells.size=4∧∀ i,i<4→w.cell? ⟨b,o+j*4+i,none⟩=u.cells[i]?
 termination_by x=>SizeOf.sizeOf x
 decreasing_by exact Nd.kZ k t m l j h
def Jn (w:World) (b o:Nat) (x:Nd):Prop:=∃ u,fE w x u∧u.cells.size=4∧∀ i,i<4→w.cell? ⟨b,o+i,none⟩=u.cells[i]?
theorem cG (w:World) (k:Int) (t:ByteArray) (m:Int) (l:List Nd) (v:Value):fE w (.mk k t m l) v↔∃ a c,v=.agg #[.int .i64 k,.string t,.int .i64 m,.slice a l.length c]∧l.length≤c∧c≤maxLen∧t.size≤10000∧bW 4 Jn w a l:=by
 rw [fE];exact Iff.rfl
theorem aJ {w w':World} (hk:bZ w w'):∀ x v,fE w x v→fE w' x v:=by
 refine oP fun k t m l ih v h=>?_
 rw [cG] at h ⊢;obtain⟨a,c,e,h1,h2,h3,h4⟩:=h;refine⟨a,c,e,h1,h2,h3,fun j hj=>?_⟩
 obtain⟨b,o,ea,hb,u,hu,hs,hc⟩:=h4 j hj;refine⟨b,o,ea,Nat.lt_of_lt_of_le hb hk.1,u,ih _ (List.getElem_mem hj) _ hu,hs,fun i hi=>?_⟩
 have h5:u.cells[i]? = some (u.cells[i]'(by omega)):=Array.getElem?_eq_getElem (by omega);rw [h5];exact hk.2 _ _ ((hc i hi).trans h5)
def LX (x:Nd) (v:Value) (w:World):Prop:=fE w x v
theorem fZ (x:Nd) (u:Value) (w w':World) (hk:bZ w w') (h:LX x u w):LX x u w':=aJ hk x u h
theorem bz {w:World} {x:Nd} {v:Value} (h:fE w x v):∃ a b c d,v=.agg #[a,b,c,d]∧v.cells=#[a,b,c,d]∧a.oneCell'=true∧b.oneCell'=true∧c.oneCell'=true∧d.oneCell'=true:=by
 cases x with
 | mk k t m l=>
  rw [cG] at h;obtain⟨a,c,rfl,-⟩:=h;exact⟨_,_,_,_,rfl,rfl,rfl,rfl,rfl,rfl⟩
theorem fA {w:World} {x:Nd} {v:Value} (h:fE w x v):v.cells.size=4:=by
 obtain⟨a,b,c,d,-,e,-⟩:=bz h;rw [e];rfl
theorem LY (w:World) (b o:Nat) (x:Nd) (u:Value) (h:LX x u w) (hs:u.cells.size=4) (hc:∀ i,i<4→w.cell? ⟨b,o+i,none⟩=u.cells[i]?):Jn w b o x:=⟨u,h,hs,hc⟩
theorem fL {w w':World} (hk:bZ w w') (b o:Nat) (x:Nd) (h:Jn w b o x):Jn w' b o x:=by
 obtain⟨u,hu,hs,hc⟩:=h;refine⟨u,aJ hk _ _ hu,hs,fun i hi=>?_⟩
 have h5:u.cells[i]? = some (u.cells[i]'(by omega)):=Array.getElem?_eq_getElem (by omega);rw [h5];exact hk.2 _ _ ((hc i hi).trans h5)
theorem o_ {w w':World} {B:Nat} {x:Nd} {v:Value} (h:fE (hide (below B) w) x v) {S:Nat→Prop} (hC:aB S w w') (hS:∀ i,S i→i<B):fE (hide (below B) w') x v:=
 aJ (aC hC fun i _ hs=>by simp [below,hS i hs]) _ _ h
theorem Bg {w:World} {B B2:Nat} {x:Nd} {v:Value} (h:fE (hide (below B) w) x v) (hB:B2≤B):fE (hide (below B2) w) x v:=
 aJ (aZ (Nat.le_refl _) fun i hi hm=>by
  simp only [below,decide_eq_false_iff_not] at hm ⊢;exact⟨by omega,trivial⟩) _ _ h
theorem F_ {w:World} {B:Nat} {k m:Int} {t:ByteArray} {v:Value} {l:List Nd} (h:Grow 4 24 LX B w v l) (ht:t.size≤10000):fE (hide (below B) w) (.mk k t m l) (.agg #[.int .i64 k,.string t,.int .i64 m,v]):=by
 obtain⟨a,c,rfl,h1,h2,h3⟩:=h.row (In:=Jn) fZ LY;rw [cG];exact⟨a,c,rfl,h1,h2,ht,h3⟩
theorem jX (w:World) (k m:Int) (t:ByteArray) (ht:t.size≤10000):fE w (.mk k t m []) (.agg #[.int .i64 k,.string t,.int .i64 m,.slice none 0 0]):=by
 rw [cG];exact⟨none,0,rfl,Nat.le_refl _,by decide,ht,fun j h=>by cases h⟩
structure Tk where
 kind:Int
 text:ByteArray
 at_:Int
structure jm (t:Tk):Prop where
 kinds:1≤t.kind∧t.kind≤3
 size:t.text.size≤3000
 word:t.kind=1→jD t.text.data.toList=true
 num:t.kind=2→mQ t.text.data.toList=true∧t.text.data.toList≠[]∧decFrom 0 t.text.data.toList<9223372036854775808
 sign:t.kind=3→jD t.text.data.toList=false
structure Z5 (w:World) (b o:Nat) (t:Tk):Prop where
 c0:w.cell? ⟨b,o,none⟩=some (.int .i64 t.kind)
 c1:w.cell? ⟨b,o+1,none⟩=some (.string t.text)
 c2:w.cell? ⟨b,o+2,none⟩=some (.int .i64 t.at_)
 ok:jm t
def Bh (w:World) (a:Option Addr) (k:Nat) (l:List Tk):Prop:=∀ (j:Nat) (h:j<l.length),∃ b o,a=some ⟨b,o,none⟩∧b<w.heap.size∧Z5 w b (o+(k+j)*3) l[j]
theorem Bh.tail {w:World} {a:Option Addr} {k:Nat} {t:Tk} {r:List Tk} (h:Bh w a k (t::r)):Bh w a (k+1) r:=fun j hj=>by
 have:=h (j+1) (by simpa using hj);rw [show k+1+j=k+(j+1) by omega];exact this
structure bu (W w:World) (S E:Nat) (l:List Tk):Prop where
 ex:∃ a n c k,aH w S #[.slice a n c,.int .i64 (k:Nat),.int .i64 (E:Nat)] 108∧k+l.length=n∧n≤10000∧Bh W a k l
 ext:Ext W w
 hS:W.heap.size≤S
theorem bu.aO {W w w':World} {S E:Nat} {l:List Tk} (h:bu W w S E l) {M:Nat→Prop} (hE:aB M w w') (hn:¬ M S) (hM:∀ i,M i→W.heap.size≤i):bu W w' S E l:=by
 obtain⟨a,n,c,k,hb,h1,h2,h3⟩:=h.ex;exact⟨⟨a,n,c,k,hb.aO hE hn,h1,h2,h3⟩,h.ext.trans hE (fun i hi hm=>by have:=hM i hm;omega),h.hS⟩
theorem bu.extend {W w w':World} {S E:Nat} {l:List Tk} (h:bu W w S E l) (hE:Ext w w'):bu W w' S E l:=h.aO hE id fun _ h=>h.elim
theorem bu.alloc {W w:World} {S E:Nat} {l:List Tk} (h:bu W w S E l) (o:Obj):bu W (w.alloc o) S E l:=h.extend ((aB.refl _ _).alloc o)
theorem bu.lt {W w:World} {S E:Nat} {l:List Tk} (h:bu W w S E l):S<w.heap.size:=by obtain⟨a,n,c,k,hb,-⟩:=h.ex;exact hb.lt
theorem bu.zl {W w:World} {S E:Nat} {l:List Tk} (h:bu W w S E l) {p:Addr} (hp:p.block≠S) (hW:W.heap.size≤p.block) (u:Value):bu W (w.setCell p u) S E l:=
 h.aO ((aB.refl (fun i=>i=p.block) w).setCell (fun _=>rfl) _) (fun e=>hp e.symm) (fun i hi=>by omega)
inductive Out (α : Type) where
 | out
 | bad (l:List Tk)
 | got (x:α) (l:List Tk)
def Out.bind {α β : Type} (o:Out α) (f:α→List Tk→Out β):Out β:=match o with
 | .out=>.out
 | .bad l=>.bad l
 | .got x l=>f x l
theorem Out.bg {α β : Type} {o:Out α} {f:α→List Tk→Out β} {T:Out β} (h:o.bind f=T) (hT:T≠.out):o≠.out:=by
 rintro rfl;exact hT h.symm
theorem Out.aF {α β : Type} {o:Out α} {f:α→List Tk→Out β} {T:Out β} {l:List Tk} (h:o.bind f=T) (ho:o=.bad l):T=.bad l:=by
 subst ho;exact h.symm
theorem Out.aG {α β : Type} {o:Out α} {f:α→List Tk→Out β} {T:Out β} {x:α} {l:List Tk} (h:o.bind f=T) (ho:o=.got x l):f x l=T:=by
 subst ho;exact h
def posOf (E:Nat):List Tk→Int
 | []=>E
 | t::_=>t.at_
def kindOf:List Tk→Int
 | []=>0
 | t::_=>t.kind
def textOf:List Tk→ByteArray
 | []=>⟨#[]⟩
 | t::_=>t.text
def fO (l:List Tk) (ws:List ByteArray):Bool:=match l with
 | []=>false
 | t::_=>decide (t.kind≠2)&&(ws.any fun s=>decide (t.text=s))
def Gf:ByteArray:=⟨#[46]⟩
def cO:ByteArray:=⟨#[59]⟩
def jE:ByteArray:=⟨#[44]⟩
def Kw:ByteArray:=⟨#[61]⟩
def iz:ByteArray:=⟨#[40]⟩
def dI:ByteArray:=⟨#[41]⟩
def vZ:ByteArray:=⟨#[91]⟩
def rH:ByteArray:=⟨#[93]⟩
def xR:ByteArray:=⟨#[123]⟩
def Es:ByteArray:=⟨#[125]⟩
def zn:ByteArray:=⟨#[45]⟩
def LZ:ByteArray:=⟨#[33]⟩
def pq:ByteArray:=⟨#[104,105,103,104]⟩
def qN:ByteArray:=⟨#[108,111,119]⟩
def XX:ByteArray:=⟨#[100,111]⟩
def XY:ByteArray:=⟨#[105,102]⟩
def Et:ByteArray:=⟨#[101,108,115,101]⟩
def zo:ByteArray:=⟨#[119,104,105,108,101]⟩
def L8:ByteArray:=⟨#[111,117,116]⟩
def XZ:ByteArray:=⟨#[105,110]⟩
def uF:ByteArray:=⟨#[114,101,116,117,114,110]⟩
def rI:ByteArray:=⟨#[109,111,100,117,108,101]⟩
def uG:ByteArray:=⟨#[105,109,112,111,114,116]⟩
def rJ:ByteArray:=⟨#[112,117,98]⟩
def v_:ByteArray:=⟨#[112,114,111,99]⟩
def ou:ByteArray:=⟨#[103,105,118,101,115]⟩
def aS:ByteArray:=⟨#[]⟩
def dU (s:ByteArray) (l:List Tk):Out Unit:=if fO l [s]=true then .got () l.tail else .bad l
def fJ:List Tk→Out ByteArray
 | []=>.bad []
 | t::r=>if t.kind=1∧iW.contains t.text.data.toList=false then .got t.text r else .bad (t::r)
def iL (l:List Tk):Out ByteArray:=(fJ l).bind fun s l=>if fO l [Gf]=true then (fJ l.tail).bind fun t l=>.got (s++(Gf++t)) l else .got s l
def dF (l:List Tk):Out Int:=if fO l [pq]=true then .got 1 l.tail else (dU qN l).bind fun _ l=>.got 0 l
def valOf (s:ByteArray):Int:=(decFrom 0 s.data.toList:Nat)
def fD:List Tk→Out Nd
 | []=>.bad []
 | t::r=>if t.kind=2 then .got (.mk 15 aS (valOf t.text) []) r else .bad (t::r)
def qO (s:ByteArray):Int×Int:=
 if s=⟨#[61,61]⟩ then (9,0) else if s=⟨#[60]⟩ then (8,0) else if s=⟨#[43]⟩ then (1,1) else if s=⟨#[45]⟩ then (2,1) else if s=⟨#[124]⟩ then (7,1)
 else if s=⟨#[42]⟩ then (3,2) else if s=⟨#[47]⟩ then (4,2) else if s=⟨#[37]⟩ then (5,2) else if s=⟨#[38]⟩ then (6,2) else (0,-1)
inductive NT where
 | expr|bound (k:Nat)|loop (k:Nat) (x:Nd)|unary|asked|place (s:ByteArray)|call (s:ByteArray)|args (s:ByteArray) (acc:List Nd)
 | block|stats (acc:List Nd)|stat|decl|proc (dX:Int)|params (s:ByteArray) (dX:Int) (acc:List Nd)|module|imports (s:ByteArray) (acc:List Nd)|decls (s:ByteArray) (acc:List Nd)
def jY (x:Nd) (l:List Tk):Out Nd:=(dU cO l).bind fun _ l=>.got x l
def bJ:Nat→NT→List Tk→Out Nd
 | 0,_,_=>.out
 | n+1,.expr,l=>bJ n (.bound 0) l
 | n+1,.bound k,l=>if 2<k then bJ n .unary l else (bJ n (.bound (k+1)) l).bind fun x l=>bJ n (.loop k x) l
 | n + 1, .loop k x, l => if kindOf l = 3 ∧ (qO (textOf l)).2 = k then
       (bJ n (.bound (k+1)) l.tail).bind fun y r=>if k=0 then .got (.mk 19 aS (qO (textOf l)).1 [x,y]) r else bJ n (.loop k (.mk 19 aS (qO (textOf l)).1 [x,y])) r
   else .got x l
 | n+1,.unary,l=>
   if fO l [zn]=true then (bJ n .unary l.tail).bind fun x r=>.got (.mk 20 aS 0 [x]) r
   else if fO l [LZ]=true then (bJ n .unary l.tail).bind fun x r=>.got (.mk 21 aS 0 [x]) r
   else if fO l [iz]=true then bJ n .asked l
   else if kindOf l=2 then fD l
   else (iL l).bind fun s l=>if fO l [iz]=true then bJ n (.call s) l else bJ n (.place s) l
 | n+1,.asked,l=>(dU iz l).bind fun _ l=>(bJ n .expr l).bind fun x l=>(dU dI l).bind fun _ l=>.got x l
 | n+1,.place s,l=>if fO l [vZ]=true then (bJ n .expr l.tail).bind fun x l=>(dU rH l).bind fun _ l=>.got (.mk 17 s 0 [x]) l else .got (.mk 16 s 0 []) l
 | n+1,.call s,l=>(dU iz l).bind fun _ l=>bJ n (.args s []) l
 | n+1,.args s acc,l=>
   if fO l [dI]=true∧acc.length=0 then (dU dI l).bind fun _ l=>.got (.mk 18 s 0 acc) l
   else (bJ n .expr l).bind fun x l=>if fO l [jE]=true then bJ n (.args s (acc ++ [x])) l.tail else (dU dI l).bind fun _ l=>.got (.mk 18 s 0 (acc ++ [x])) l
 | n+1,.block,l=>(dU xR l).bind fun _ l=>bJ n (.stats []) l
 | n+1,.stats acc,l=>if fO l [Es]=true then .got (.mk 6 aS 0 acc) l.tail else (bJ n .stat l).bind fun x l=>bJ n (.stats (acc ++ [x])) l
 | n+1,.stat,l=>
   if fO l [qN,pq]=true then (dF l).bind fun b l=>(fJ l).bind fun s l=>(dU Kw l).bind fun _ l=>(bJ n .expr l).bind fun x l=>jY (.mk 7 s b [x]) l
   else if fO l [XX]=true then (iL l.tail).bind fun s l=>(bJ n (.call s) l).bind fun x l=>jY (.mk 9 aS 0 [x]) l
   else if fO l [XY]=true then (bJ n .asked l.tail).bind fun x l=>(bJ n .block l).bind fun b l=>
    if fO l [Et]=true then (bJ n .block l.tail).bind fun c l=>.got (.mk 10 aS 0 [x,b,c]) l else .got (.mk 10 aS 0 [x,b]) l
   else if fO l [zo]=true then (bJ n .asked l.tail).bind fun x l=>(bJ n .block l).bind fun b l=>.got (.mk 11 aS 0 [x,b]) l
   else if fO l [L8]=true then (dF l.tail).bind fun b l=>(bJ n .expr l).bind fun x l=>jY (.mk 12 aS b [x]) l
   else if fO l [XZ]=true then (dF l.tail).bind fun b l=>(iL l).bind fun s l=>(bJ n (.place s) l).bind fun x l=>jY (.mk 13 aS b [x]) l
   else if fO l [uF]=true then (bJ n .expr l.tail).bind fun x l=>jY (.mk 14 aS 0 [x]) l
   else (iL l).bind fun s l=>(bJ n (.place s) l).bind fun x l=>(dU Kw l).bind fun _ l=>(bJ n .expr l).bind fun y l=>jY (.mk 8 aS 0 [x,y]) l
 | n+1,.decl,l=>
   let dX:Int:=if fO l [rJ]=true then 2 else 0
   let l:=if fO l [rJ]=true then l.tail else l
   if fO l [v_]=true then bJ n (.proc dX) l.tail
   else (dF l).bind fun b l=>(fJ l).bind fun s l=>
    if fO l [vZ]=true then (fD l.tail).bind fun x l=>(dU rH l).bind fun _ l=>jY (.mk 3 s (b+dX) [x]) l else jY (.mk 3 s (b+dX) []) l
 | n+1,.proc dX,l=>(fJ l).bind fun s l=>(dU iz l).bind fun _ l=>bJ n (.params s dX []) l
 | n+1,.params s dX acc,l=>
   let done:List Nd→List Tk→Out Nd:=fun acc l=>(dU dI l).bind fun _ l=>(dF l).bind fun b l=>
    if fO l [ou]=true then (dF l.tail).bind fun g l=>(bJ n .block l).bind fun x l=>.got (.mk 4 s (dX+b+(4+4*g)) (acc ++ [x])) l
    else (bJ n .block l).bind fun x l=>.got (.mk 4 s (dX+b) (acc ++ [x])) l
   if fO l [dI]=true∧acc.length=0 then done acc l
   else (dF l).bind fun b l=>(fJ l).bind fun p l=>if fO l [jE]=true then bJ n (.params s dX (acc ++ [.mk 5 p b []])) l.tail else done (acc ++ [.mk 5 p b []]) l
 | n+1,.module,l=>(dU rI l).bind fun _ l=>(fJ l).bind fun s l=>(dU cO l).bind fun _ l=>bJ n (.imports s []) l
 | n+1,.imports s acc,l=>
   if fO l [uG]=true then (fJ l.tail).bind fun p l=>(dU cO l).bind fun _ l=>bJ n (.imports s (acc ++ [.mk 2 p 0 []])) l
   else bJ n (.decls s acc) l
 | n+1,.decls s acc,l=>if l.length=0 then .got (.mk 1 s 0 acc) l else (bJ n .decl l).bind fun x l=>bJ n (.decls s (acc ++ [x])) l
namespace bn
def Gg (p:Int):List PanicEntry:=[{ v:=.iface 105 (.agg #[.int .i64 p]),recovered:=false }]
def dZ {α : Type} (V:α→Value→World→Prop) (W w:World) (S E:Nat) (T:Out α) (e:Ending) (w':World):Prop:=
 aB (fun i=>i=S) w w'∧match T with
  | .out=>True
  | .bad l=>e=.panicked (Gg (posOf E l))
  | .got x l=>∃ v,e=.returned v∧V x v w'∧bu W w' S E l
theorem dZ.cases {α : Type} {V:α→Value→World→Prop} {W w:World} {S E:Nat} {T:Out α} {e:Ending} {w':World} (h:dZ V W w S E T e w') (hT:T≠.out) :
  aB (fun i=>i=S) w w'∧((∃ l,T=.bad l∧e=.panicked (Gg (posOf E l)))∨∃ x l v,T=.got x l∧e=.returned v∧V x v w'∧bu W w' S E l):=by
 obtain⟨h1,h2⟩:=h;refine⟨h1,?_⟩
 cases T with
 | out=>exact(hT rfl).elim
 | bad l=>exact .inl ⟨l,rfl,h2⟩
 | got x l=>obtain⟨v,h3⟩:=h2;exact .inr ⟨x,l,v,rfl,h3⟩
theorem dZ.fails {α : Type} {V:α→Value→World→Prop} {W w:World} {S E:Nat} {w':World} (h:aB (fun i=>i=S) w w') {T:Out α} {l:List Tk} (hr:T=.bad l):dZ V W w S E T (.panicked (Gg (posOf E l))) w':=by
 subst hr;exact⟨h,rfl⟩
theorem dZ.reads {α : Type} {V:α→Value→World→Prop} {W w:World} {S E:Nat} {w':World} (h:aB (fun i=>i=S) w w') {T:Out α} {x:α} {l:List Tk} (hr:T=.got x l) {v:Value} (hV:V x v w') (hR:bu W w' S E l):dZ V W w S E T (.returned v) w':=by
 subst hr;exact⟨h,v,rfl,hV,hR⟩
def U3 (s:ByteArray) (v:Value) (_:World):Prop:=v=.string s∧s.size≤7000
def U4 (b:Int) (v:Value) (_:World):Prop:=v=.int .i64 b∧0≤b∧b≤1
def U5 (_:Unit) (v:Value) (_:World):Prop:=v=.tuple #[]
end bn
end Go.Proofs.YtpcihajmcejliacGreatDoor
namespace Go.Proofs.YtpcihajmcejliacGreatDoor
open Go.RowKit
def NT.weak:NT→Nat
 | .loop _ _=>0
 | .imports _ _=>0
 | .decls _ _=>0
 | .place _=>0
 | _=>1
namespace bC
theorem ag {α β : Type} {o:Out α} {f:α→List Tk→Out β} {x:β} {r:List Tk} (h:o.bind f=.got x r):∃ y l,o=.got y l∧f y l=.got x r:=by
 cases o with
 | out=>cases h
 | bad l=>cases h
 | got y l=>exact⟨y,l,rfl,h⟩
theorem aU {l:List Tk} {ws:List ByteArray} (h:fO l ws=true):l.tail.length<l.length:=by
 cases l with
 | nil=>cases h
 | cons t r=>simp
theorem aV {s:ByteArray} {l r:List Tk} {u:Unit} (h:dU s l=.got u r):r.length<l.length:=by
 unfold dU at h;split at h
 ·rename_i h1
  injection h with _ h2
  subst h2;exact aU h1
 ·cases h
theorem ij {l r:List Tk} {s:ByteArray} (h:fJ l=.got s r):r.length<l.length:=by
 cases l with
 | nil=>cases h
 | cons t q=>
  simp only [fJ] at h;split at h
  ·injection h with _ h2
   subst h2;simp
  ·cases h
theorem pY {l r:List Tk} {x:Nd} (h:fD l=.got x r):r.length<l.length:=by
 cases l with
 | nil=>cases h
 | cons t q=>
  simp only [fD] at h;split at h
  ·injection h with _ h2
   subst h2;simp
  ·cases h
theorem gV {l r:List Tk} {s:ByteArray} (h:iL l=.got s r):r.length<l.length:=by
 unfold iL at h;obtain⟨y,q,h1,h2⟩:=ag h;have:=ij h1;split at h2
 ·rename_i hb
  obtain⟨z,q2,h3,h4⟩:=ag h2;have:=ij h3;have:=aU hb;injection h4 with _ h5
  subst h5;omega
 ·injection h2 with _ h5
  subst h5;omega
theorem dL {l r:List Tk} {b:Int} (h:dF l=.got b r):r.length<l.length:=by
 unfold dF at h;split at h
 ·rename_i hb
  injection h with _ h5
  subst h5;exact aU hb
 ·obtain⟨z,q2,h3,h4⟩:=ag h
  have:=aV h3;injection h4 with _ h5
  subst h5;omega
theorem lX {l r:List Tk} {x y:Nd} (h:jY x l=.got y r):r.length<l.length:=by
 unfold jY at h;obtain⟨z,q2,h3,h4⟩:=ag h;have:=aV h3;injection h4 with _ h5
 subst h5;omega
theorem iq {x y:Nd} {l r:List Tk} (h:Out.got x l=Out.got y r):r.length=l.length:=by injection h with _ h;rw [h]
theorem Eu {l:List Tk} (h:kindOf l=3):l.tail.length<l.length:=by
 cases l with
 | nil=>simp [kindOf] at h
 | cons t r=>simp
theorem dJ:∀ (n:Nat) (X:NT) (l:List Tk) (x:Nd) (r:List Tk),bJ n X l=.got x r→r.length+X.weak≤l.length:=by
 intro n;induction n with
 | zero=>intro X l x r h;cases X<;>cases h
 | succ n ih=>
  intro X l x r h;cases X with
  | expr=>
   simp only [bJ] at h;have:=ih _ _ _ _ h;exact this
  | bound k=>
   simp only [bJ] at h;split at h
   ·have:=ih _ _ _ _ h
    exact this
   ·obtain⟨y,q,h1,h2⟩:=ag h
    have a:=ih _ _ _ _ h1;have b:=ih _ _ _ _ h2;simp only [NT.weak] at a b ⊢;omega
  | loop k z=>
   simp only [bJ] at h;split at h
   ·rename_i hk
    have:=Eu hk.1;obtain⟨y,q,h1,h2⟩:=ag h;have a:=ih _ _ _ _ h1;split at h2
    ·have b:=iq h2
     simp only [NT.weak] at a ⊢;omega
    ·have b:=ih _ _ _ _ h2
     simp only [NT.weak] at a b ⊢;omega
   ·have b:=iq h
    simp only [NT.weak];omega
  | unary=>
   simp only [bJ] at h;simp only [NT.weak];split at h
   ·rename_i hb
    have:=aU hb;obtain⟨y,q,h1,h2⟩:=ag h;have a:=ih _ _ _ _ h1;have b:=iq h2;simp only [NT.weak] at a;omega
   ·split at h
    ·rename_i hb
     have:=aU hb;obtain⟨y,q,h1,h2⟩:=ag h;have a:=ih _ _ _ _ h1;have b:=iq h2;simp only [NT.weak] at a;omega
    ·split at h
     ·have a:=ih _ _ _ _ h
      exact a
     ·split at h
      ·have:=pY h;omega
      ·obtain⟨y,q,h1,h2⟩:=ag h
       have:=gV h1;split at h2
       ·have b:=ih _ _ _ _ h2
        simp only [NT.weak] at b;omega
       ·have b:=ih _ _ _ _ h2
        simp only [NT.weak] at b;omega
  | asked=>
   simp only [bJ] at h;simp only [NT.weak];obtain⟨y,q,h1,h2⟩:=ag h;have:=aV h1;obtain⟨y2,q2,h3,h4⟩:=ag h2;have a:=ih _ _ _ _ h3;obtain⟨y3,q3,h5,h6⟩:=ag h4;have:=aV h5;have:=iq h6;omega
  | place s=>
   simp only [bJ] at h;simp only [NT.weak];split at h
   ·rename_i hb
    have:=aU hb;obtain⟨y2,q2,h3,h4⟩:=ag h;have a:=ih _ _ _ _ h3;obtain⟨y3,q3,h5,h6⟩:=ag h4;have:=aV h5;have:=iq h6;omega
   ·have:=iq h
    omega
  | call s=>
   simp only [bJ] at h;simp only [NT.weak];obtain⟨y,q,h1,h2⟩:=ag h;have:=aV h1;have a:=ih _ _ _ _ h2;omega
  | args s acc=>
   simp only [bJ] at h;simp only [NT.weak];split at h
   ·obtain⟨y3,q3,h5,h6⟩:=ag h
    have:=aV h5;have:=iq h6;omega
   ·obtain⟨y,q,h1,h2⟩:=ag h
    have a:=ih _ _ _ _ h1;split at h2
    ·rename_i hb
     have:=aU hb;have b:=ih _ _ _ _ h2;simp only [NT.weak] at a b;omega
    ·obtain⟨y3,q3,h5,h6⟩:=ag h2
     have:=aV h5;have:=iq h6;simp only [NT.weak] at a;omega
  | block=>
   simp only [bJ] at h;simp only [NT.weak];obtain⟨y,q,h1,h2⟩:=ag h;have:=aV h1;have a:=ih _ _ _ _ h2;omega
  | stats acc=>
   simp only [bJ] at h;simp only [NT.weak];split at h
   ·rename_i hb
    have:=aU hb;have:=iq h;omega
   ·obtain⟨y,q,h1,h2⟩:=ag h
    have a:=ih _ _ _ _ h1;have b:=ih _ _ _ _ h2;simp only [NT.weak] at a b;omega
  | stat=>
   simp only [bJ] at h;simp only [NT.weak];split at h
   ·obtain⟨y1,q1,h1,h2⟩:=ag h
    have:=dL h1;obtain⟨y3,q3,h3,h4⟩:=ag h2;have:=ij h3;obtain⟨y5,q5,h5,h6⟩:=ag h4;have:=aV h5;obtain⟨y7,q7,h7,h8⟩:=ag h6;have a:=ih _ _ _ _ h7;have:=lX h8;omega
   split at h
   ·rename_i hb
    have:=aU hb;obtain⟨y1,q1,h1,h2⟩:=ag h;have:=gV h1;obtain⟨y7,q7,h7,h8⟩:=ag h2;have a:=ih _ _ _ _ h7;have:=lX h8;omega
   split at h
   ·rename_i hb
    have:=aU hb;obtain⟨y1,q1,h1,h2⟩:=ag h;have a:=ih _ _ _ _ h1;obtain⟨y3,q3,h3,h4⟩:=ag h2;have b:=ih _ _ _ _ h3;split at h4
    ·rename_i hb
     have:=aU hb;obtain⟨y5,q5,h5,h6⟩:=ag h4;have c:=ih _ _ _ _ h5;have:=iq h6;omega
    ·have:=iq h4
     omega
   split at h
   ·rename_i hb
    have:=aU hb;obtain⟨y1,q1,h1,h2⟩:=ag h;have a:=ih _ _ _ _ h1;obtain⟨y3,q3,h3,h4⟩:=ag h2;have b:=ih _ _ _ _ h3;have:=iq h4;omega
   split at h
   ·rename_i hb
    have:=aU hb;obtain⟨y1,q1,h1,h2⟩:=ag h;have:=dL h1;obtain⟨y7,q7,h7,h8⟩:=ag h2;have a:=ih _ _ _ _ h7;have:=lX h8;omega
   split at h
   ·rename_i hb
    have:=aU hb;obtain⟨y1,q1,h1,h2⟩:=ag h;have:=dL h1;obtain⟨y3,q3,h3,h4⟩:=ag h2;have:=gV h3;obtain⟨y7,q7,h7,h8⟩:=ag h4;have a:=ih _ _ _ _ h7;have:=lX h8;omega
   split at h
   ·rename_i hb
    have:=aU hb;obtain⟨y7,q7,h7,h8⟩:=ag h;have a:=ih _ _ _ _ h7;have:=lX h8;omega
   ·obtain⟨y1,q1,h1,h2⟩:=ag h
    have:=gV h1;obtain⟨y3,q3,h3,h4⟩:=ag h2;have a:=ih _ _ _ _ h3;obtain⟨y5,q5,h5,h6⟩:=ag h4;have:=aV h5;obtain⟨y7,q7,h7,h8⟩:=ag h6;have b:=ih _ _ _ _ h7;have:=lX h8;omega
  | decl=>
   simp only [bJ] at h;simp only [NT.weak]
   obtain⟨l2,hl2,hle⟩:∃ l2,(if fO l [rJ]=true then l.tail else l)=l2∧l2.length≤l.length:=by
    refine⟨_,rfl,?_⟩
    split
    ·rename_i hb;have:=aU hb;omega
    ·exact Nat.le_refl _
   rw [hl2] at h;split at h
   ·rename_i hb
    have:=aU hb;have a:=ih _ _ _ _ h;simp only [NT.weak] at a;omega
   ·obtain⟨y1,q1,h1,h2⟩:=ag h
    have:=dL h1;obtain⟨y3,q3,h3,h4⟩:=ag h2;have:=ij h3;split at h4
    ·rename_i hb
     have:=aU hb;obtain⟨y5,q5,h5,h6⟩:=ag h4;have:=pY h5;obtain⟨y7,q7,h7,h8⟩:=ag h6;have:=aV h7;have:=lX h8;omega
    ·have:=lX h4
     omega
  | proc dX=>
   simp only [bJ] at h;simp only [NT.weak];obtain⟨y1,q1,h1,h2⟩:=ag h;have:=ij h1;obtain⟨y3,q3,h3,h4⟩:=ag h2;have:=aV h3;have a:=ih _ _ _ _ h4;omega
  | params s dX acc=>
   simp only [NT.weak]
   have done:∀ (acc:List Nd) (l:List Tk),((dU dI l).bind fun _ l=>(dF l).bind fun b l=>
     if fO l [ou]=true then (dF l.tail).bind fun g l=>(bJ n .block l).bind fun x l=>.got (.mk 4 s (dX+b+(4+4*g)) (acc ++ [x])) l
     else (bJ n .block l).bind fun x l=>.got (.mk 4 s (dX+b) (acc ++ [x])) l)=.got x r→r.length+1≤l.length:=by
    intro acc l h;obtain⟨y1,q1,h1,h2⟩:=ag h;have:=aV h1;obtain⟨y3,q3,h3,h4⟩:=ag h2;have:=dL h3;split at h4
    ·rename_i hb
     have:=aU hb;obtain⟨y5,q5,h5,h6⟩:=ag h4;have:=dL h5;obtain⟨y7,q7,h7,h8⟩:=ag h6;have a:=ih _ _ _ _ h7;have:=iq h8;omega
    ·obtain⟨y7,q7,h7,h8⟩:=ag h4
     have a:=ih _ _ _ _ h7;have:=iq h8;omega
   simp only [bJ] at h;split at h
   ·exact done _ _ h
   ·obtain⟨y1,q1,h1,h2⟩:=ag h
    have:=dL h1;obtain⟨y3,q3,h3,h4⟩:=ag h2;have:=ij h3;split at h4
    ·rename_i hb
     have:=aU hb;have a:=ih _ _ _ _ h4;simp only [NT.weak] at a;omega
    ·have:=done _ _ h4
     omega
  | module=>
   simp only [bJ] at h;simp only [NT.weak];obtain⟨y1,q1,h1,h2⟩:=ag h;have:=aV h1;obtain⟨y3,q3,h3,h4⟩:=ag h2;have:=ij h3;obtain⟨y5,q5,h5,h6⟩:=ag h4;have:=aV h5;have a:=ih _ _ _ _ h6;simp only [NT.weak] at a;omega
  | imports s acc=>
   simp only [bJ] at h;simp only [NT.weak];split at h
   ·rename_i hb
    have:=aU hb;obtain⟨y3,q3,h3,h4⟩:=ag h;have:=ij h3;obtain⟨y5,q5,h5,h6⟩:=ag h4;have:=aV h5;have a:=ih _ _ _ _ h6;simp only [NT.weak] at a;omega
   ·have a:=ih _ _ _ _ h
    simp only [NT.weak] at a;omega
  | decls s acc=>
   simp only [bJ] at h;simp only [NT.weak];split at h
   ·have:=iq h;omega
   ·obtain⟨y1,q1,h1,h2⟩:=ag h
    have a:=ih _ _ _ _ h1;have b:=ih _ _ _ _ h2;simp only [NT.weak] at a b;omega
end bC
end Go.Proofs.YtpcihajmcejliacGreatDoor
namespace Go.Proofs.YtpcihajmcejliacGreatDoor
open Go.RowKit
namespace bn
theorem bD {P:Program} {fn:Func} {p:Tmp} {ty:TypeId} {Q:Ending→World→Prop} {a:Act} {w:World} {A:Nat} {T:TypeId} {cs:Array Value} {d:TypeDesc} (h:fn.results=#[.cell p ty]) (hd:a.defers=[]) (hp:a.tmps[p]?.getD undef=.pointer (some ⟨A,0,none⟩)) (hA:aH w A cs T)
  (hu:P.underlying ty=some d) (hd2:(match d with|.struct _|.array _ _=>true|_=>false)=true) (hi:(P.info? ty).map (·.size)=some cs.size) (hq:Q (.returned (.agg cs)) w):bodyPost P fn Q .ret a w:=by
 refine bodyPost_ret (v:=.agg cs) ?_ hd hq
 simp [results,h,hp,asAddr,run_loadVar_row w A T ty cs (0,0) d hA hu hd2 hi]
def Gh (t:Tk):Value:=.agg #[.int .i64 t.kind,.string t.text,.int .i64 t.at_]
def rK (E:Nat):List Tk→Tk
 | []=>⟨0,⟨#[]⟩,E⟩
 | t::_=>t
theorem Ql (E:Nat) (l:List Tk):(rK E l).at_=posOf E l:=by cases l<;>rfl
theorem Ew (E:Nat) (l:List Tk):(rK E l).kind=kindOf l:=by cases l<;>rfl
theorem L_ (E:Nat) (l:List Tk):(rK E l).text=textOf l:=by cases l<;>rfl
set_option maxRecDepth 100000 in
set_option maxHeartbeats 1000000 in
theorem nN {W w:World} {S E:Nat} {l:List Tk} (h:bu W w S E l) :
  Calls Tryz.prog 174 #[.pointer (some ⟨S,0,none⟩)] w fun e w'=>e=.returned (Gh (rK E l))∧Ext w w':=by
 obtain⟨a,n,c,k,hb,h1,h2,h3⟩:=h.ex;have hA:=aH.made w #[.int .i64 0,.string ⟨#[]⟩,.int .i64 0] 195;have hX:=(aB.refl (fun _=>False) w).alloc (.cells #[.int .i64 0,.string ⟨#[]⟩,.int .i64 0] 195);have hb2:=hb.alloc (.cells #[.int .i64 0,.string ⟨#[]⟩,.int .i64 0] 195);have hbl:=hb.lt;have hc0:=hb2.cell 0;have hc1:=hb2.cell 1;have hc2:=hb2.cell 2;simp at hc0 hc1 hc2
 have hf:=hb2.frozen;cases l with
 | nil=>
  simp only [List.length_nil,Nat.add_zero] at h1;subst h1;have HX:=Z_ hX;have HA:=Z_ hA;clear h3 hX h hb hb2 hA;go_enter Tryz.func174,Tryz.ntmps174
  go_wp2_with fail
  go_quiet (fail)
  have hA2:=HA.out.drewN nq;have CH:=Z_ (HX.out.drewN nq);have hc:=hA2.cell;have IC:=hA2.frozen;have hl2:=hA2.lt;have ae8:(World.drewN (w.alloc (.cells #[.int .i64 0,.string ⟨#[]⟩,.int .i64 0] 195)) nq).cell? ⟨S,2,none⟩=some (.int .i64 E):=hc2;generalize World.drewN (w.alloc (.cells #[.int .i64 0,.string ⟨#[]⟩,.int .i64 0] 195)) nq=w2 at *;clear hc0 hc1 hc2 hf HX HA;go_wp2_with fail
  refine bD rfl rfl rfl (((hA2.set 0 _).set 1 _).set 2 _) Tryz.underlying195 rfl (by kernel_rfl) ?_
  exact⟨rfl,((CH.out.bI (p:=⟨w.heap.size,0,none⟩) (by simp) _).bI (p:=⟨w.heap.size,1,none⟩) (by simp) _).bI (p:=⟨w.heap.size,2,none⟩) (by simp) _⟩
 | cons t r=>
  obtain⟨b,o,rfl,hbb,ht⟩:=h3 0 (by simp);obtain⟨t0,t1,t2,-⟩:=ht;have hW:=h.ext.ext hX;have hbW:=Nat.lt_of_lt_of_le hbb hW.size;have e:∀ i,(w.alloc (.cells #[.int .i64 0,.string ⟨#[]⟩,.int .i64 0] 195)).cell? ⟨b,i,none⟩=W.cell? ⟨b,i,none⟩:=fun i=>hW.cell (by exact hbb) id
  rw [←e] at t0 t1 t2;simp only [Nat.add_zero,List.getElem_cons_zero] at t0 t1 t2;have hkn:(k:Int)<(n:Int):=by simp at h1;omega
  have HX:=Z_ hX;have HA:=Z_ hA;clear h3 hX h hb hb2 hA e hW h1;obtain⟨tk,tt,ta⟩:=t;simp only at t0 t1 t2;go_enter Tryz.func174,Tryz.ntmps174
  go_wp2_with fail
  go_quiet (fail)
  have hA2:=HA.out.drewN nq;have CH:=Z_ (HX.out.drewN nq);have hc:=hA2.cell;have IC:=hA2.frozen;have hl2:=hA2.lt;replace t0:(World.drewN (w.alloc (.cells #[.int .i64 0,.string ⟨#[]⟩,.int .i64 0] 195)) nq).cell? ⟨b,o+k*3,none⟩=_:=t0;replace t1:(World.drewN (w.alloc (.cells #[.int .i64 0,.string ⟨#[]⟩,.int .i64 0] 195)) nq).cell? ⟨b,o+k*3+1,none⟩=_:=t1;replace t2:(World.drewN (w.alloc (.cells #[.int .i64 0,.string ⟨#[]⟩,.int .i64 0] 195)) nq).cell? ⟨b,o+k*3+2,none⟩=_:=t2;replace hc0:(World.drewN (w.alloc (.cells #[.int .i64 0,.string ⟨#[]⟩,.int .i64 0] 195)) nq).cell? ⟨S,0,none⟩=_:=hc0;replace hc1:(World.drewN (w.alloc (.cells #[.int .i64 0,.string ⟨#[]⟩,.int .i64 0] 195)) nq).cell? ⟨S,1,none⟩=_:=hc1;generalize World.drewN (w.alloc (.cells #[.int .i64 0,.string ⟨#[]⟩,.int .i64 0] 195)) nq=w2 at *
  clear hc2 hf HX HA;go_wp2_with fail
  go_still_tail 10,(by kernel_rfl)
  change wpList _ _ _ _ _ w2.drew
  have hA3:=hA2.drew;have hc:=hA3.cell;have IC:=hA3.frozen;have hl2:=hA3.lt;have AU:=Z_ CH.out.drew;clear t0 t1 t2 hc0 hc1 hA2 CH;generalize w2.drew=w3 at *;go_wp2_with fail
  refine bD rfl rfl rfl (((hA3.set 0 _).set 1 _).set 2 _) Tryz.underlying195 rfl (by kernel_rfl) ?_
  exact⟨rfl,((AU.out.bI (p:=⟨w.heap.size,0,none⟩) (by simp) _).bI (p:=⟨w.heap.size,1,none⟩) (by simp) _).bI (p:=⟨w.heap.size,2,none⟩) (by simp) _⟩
theorem mV {w w':World} (h:Ext w w') (S:Nat):aB (fun i=>i=S) w w':=h.weak fun _ _ h=>h.elim
theorem ak {w u:World} {S:Nat} (h:aB (fun i=>i=S) w u) (o:Nat) (v:Value):aB (fun i=>i=S) w (u.setCell ⟨S,o,none⟩ v):=h.setCell (p:=⟨S,o,none⟩) (fun _=>rfl) v
theorem Ey {W w:World} {S E:Nat} {t:Tk} {r:List Tk} (h:bu W w S E (t::r)):jm t:=by
 obtain⟨a,n,c,k,hb,h1,h2,h3⟩:=h.ex;obtain⟨b,o,-,-,ht⟩:=h3 0 (by simp);exact ht.ok
theorem uH {W w:World} {S E:Nat} {t:Tk} {r:List Tk} (h:bu W w S E (t::r)):∃ k:Nat,w.cell? ⟨S,1,none⟩=some (.int .i64 k)∧k<10000∧bu W (w.setCell ⟨S,1,none⟩ (.int .i64 ((k:Int)+1))) S E r:=by
 obtain⟨a,n,c,k,hb,h1,h2,h3⟩:=h.ex;refine⟨k,hb.cell 1,by simp at h1;omega,⟨a,n,c,k+1,?_,by simp at h1;omega,h2,h3.tail⟩,h.ext.bI h.hS _,h.hS⟩
 have:=hb.set 1 (.int .i64 ((k:Int)+1));exact this
theorem wu {W w:World} {S E:Nat} {l:List Tk} (h:bu W w S E l):∃ a n c k,aH w S #[.slice a n c,.int .i64 (k:Nat),.int .i64 (E:Nat)] 108∧k+l.length=n∧n≤10000:=by
 obtain⟨a,n,c,k,hb,h1,h2,h3⟩:=h.ex;exact⟨a,n,c,k,hb,h1,h2⟩
theorem Jo (a b c:Value) (w:World):(Instr.field 195 (.agg #[a,b,c]) 2).run Tryz.prog w=.ok c w:=by
 unfold Instr.field;simp [asAgg,part,run_underlying Tryz.underlying195]
theorem Du (a b c:Value) (w:World):(Instr.field 195 (.agg #[a,b,c]) 0).run Tryz.prog w=.ok a w:=by
 unfold Instr.field;simp [asAgg,part,run_underlying Tryz.underlying195]
set_option maxRecDepth 100000 in
set_option maxHeartbeats 1000000 in
theorem wA {W w:World} {S E:Nat} {l:List Tk} (h:bu W w S E l) :
  Calls Tryz.prog 173 #[.pointer (some ⟨S,0,none⟩)] w fun e w'=>e=.panicked (Gg (posOf E l))∧Ext w w':=by
 have HC:=Z_ (nN h);rw [←Ql];clear h;generalize rK E l=t at HC ⊢;obtain⟨tk,tt,ta⟩:=t;go_enter Tryz.func173,Tryz.ntmps173
 go_wp2_with fail
 refine HC.out.mono ?_
 rintro e w' ⟨rfl,hE⟩;unfold Gh;have hfi:=Jo (.int .i64 tk) (.string tt) (.int .i64 ta) w';go_wp2_with fail
 exact⟨rfl,rfl,hE⟩
theorem str_eq {a b:ByteArray}:(a.toList == b.toList)=decide (a=b):=by
 rw [ByteArray.toList_eq,ByteArray.toList_eq,Bool.eq_iff_iff];simp only [beq_iff_eq,decide_eq_true_eq];constructor
 ·intro h;exact ByteArray.ext (Array.ext' h)
 ·rintro rfl;rfl
theorem Jp {ws:List ByteArray} {s:ByteArray} {j:Nat} (h:j<ws.length):((ws.drop j).any fun x=>decide (s=x))=(decide (s=ws[j]) || ((ws.drop (j+1)).any fun x=>decide (s=x))):=by
 rw [List.drop_eq_getElem_cons h,List.any_cons]
set_option maxRecDepth 100000 in
set_option maxHeartbeats 1000000 in
theorem pR (g:Nat) (ws:List ByteArray) (n c:Nat) (s:ByteArray) (w:World) (hn:ws.length=n) (hm:n≤100) (hws:∀ j (h:j<ws.length),w.cell? ⟨g,j,none⟩=some (.string ws[j])) :
  Calls Tryz.prog 275 #[.slice (some ⟨g,0,none⟩) n c,.string s] w fun e w'=>Ext w w'∧∃ i:Int,e=.returned (.int .i64 i)∧decide (0≤i)=ws.any fun x=>decide (s=x):=by
 obtain⟨R,hR⟩:∃ R,(ws.any fun x=>decide (s=x))=R:=⟨_,rfl⟩;rw [hR];have HW:=Z_ hws;have HN:=Z_ hn;have HR:=Z_ hR;clear hws hn hR;go_enter Tryz.func275,Tryz.ntmps275
 go_wp2_with fail
 go_loopw [8] (fun i wr=>∃ k:Nat,k≤n∧i=.int .i64 k∧w=wr∧Hid (((ws.drop k).any fun x=>decide (s=x))=R)) (fun i _=>n-(intOf i).toNat)
 case atStart=>exact⟨0,Nat.zero_le _,rfl,rfl,HR⟩
 case round=>
  obtain⟨k,hk,rfl,rfl,hr⟩:=hrel;by_cases hlt:k<n
  ·have hkl:k<ws.length:=by rw [HN.out];exact hlt
   have hki:(k:Int)<(n:Int):=by omega
   have h0:=HW.out k hkl;have hr2:=hr.out;rw [Jp hkl] at hr2;generalize ws[k]=x at *;by_cases e:s=x
   ·subst e
    have HT:=Z_ (show R=true by rw [←hr2];simp);have he:(s.toList == s.toList)=true:=by simp
    clear hr2 hr;go_wp2_with fail
    go_ret
    refine⟨aB.refl _ _,(k:Int),rfl,?_⟩
    rw [HT.out];simp
   ·have he:(s.toList == x.toList)=false:=by rw [str_eq];simpa using e
    have HT:=Z_ (show ((ws.drop (k+1)).any fun x=>decide (s=x))=R by rw [←hr2];simp [e]);clear hr2 hr;go_wp2_with fail
    go_roundw
    case rel=>exact⟨k+1,by omega,by go_num,trivial,HT⟩
    case measure=>simp [intOf];omega
  ·obtain rfl:k=n:=by omega
   have HT:=Z_ (show R=false by have:=hr.out;rw [List.drop_of_length_le (by rw [HN.out];exact Nat.le_refl _)] at this;rw [←this];rfl);clear hr;go_wp2_with fail
   go_ret
   exact⟨aB.refl _ _,-1,rfl,by rw [HT.out];rfl⟩
set_option maxRecDepth 100000 in
theorem zq (g:Nat) (ws:List ByteArray) (n c:Nat) (s:ByteArray) (w:World) (hn:ws.length=n) (hm:n≤100) (hws:∀ j (h:j<ws.length),w.cell? ⟨g,j,none⟩=some (.string ws[j])) :
  Calls Tryz.prog 228 #[.slice (some ⟨g,0,none⟩) n c,.string s] w fun e w'=>e=.returned (.bool (ws.any fun x=>decide (s=x)))∧Ext w w':=by
 have HC:=Z_ (pR g ws n c s w hn hm hws);obtain⟨R,hR⟩:∃ R,(ws.any fun x=>decide (s=x))=R:=⟨_,rfl⟩;rw [hR] at HC ⊢;clear hws hn hR;go_enter Tryz.func228,Tryz.ntmps228
 go_wp2_with fail
 refine HC.out.mono ?_
 rintro e w' ⟨hE,i,rfl,hi⟩;subst hi;go_wp2_with fail
 go_ret
 exact⟨by simp,hE⟩
set_option maxRecDepth 100000 in
set_option maxHeartbeats 1000000 in
theorem sW {W w:World} {S E:Nat} {l:List Tk} (h:bu W w S E l) (g:Nat) (ws:List ByteArray) (n c:Nat) (hn:ws.length=n) (hm:n≤100) (hws:∀ j (h:j<ws.length),w.cell? ⟨g,j,none⟩=some (.string ws[j])) (hg:g<w.heap.size) :
  Calls Tryz.prog 175 #[.pointer (some ⟨S,0,none⟩),.slice (some ⟨g,0,none⟩) n c] w fun e w'=>e=.returned (.bool (fO l ws))∧Ext w w':=by
 have HC:=Z_ (nN h)
 have hcon:∀ (s:ByteArray) (u:World),Ext w u→Calls Tryz.prog 228 #[.slice (some ⟨g,0,none⟩) n c,.string s] u fun e w'=>e=.returned (.bool (ws.any fun x=>decide (s=x)))∧Ext u w':=
  fun s u hE=>zq g ws n c s u hn hm fun j hj=>by rw [hE.cell (by exact hg) id];exact hws j hj
 have Z7:=Z_ hcon;obtain⟨R,hR⟩:∃ R,fO l ws=R:=⟨_,rfl⟩;rw [hR]
 have hk:∀ t∈l.head?,jm t:=by
  cases l with
  | nil=>intro t ht;cases ht
  | cons t r => intro t' ht; obtain rfl : t = t' := by simpa using ht
                exact Ey h
 have HK:=Z_ hk;have HR:=Z_ hR;clear hws hn hR h hcon hk;cases l with
 | nil=>
  have Z8:R=false:=HR.out.symm;subst Z8;clear HR HK;simp only [rK] at HC;go_enter Tryz.func175,Tryz.ntmps175
  go_wp2_with fail
  refine HC.out.mono ?_
  rintro e w1 ⟨rfl,hE⟩;unfold Gh;have hA:=aH.made w1 #[.int .i64 0,.string ⟨#[]⟩,.int .i64 E] 195;have hE2:=hE.alloc (.cells #[.int .i64 0,.string ⟨#[]⟩,.int .i64 E] 195);go_wp2_with fail
  go_ret
  exact⟨rfl,hE2⟩
 | cons t r=>
  have ho:=HK.out t rfl;obtain⟨tk,tt,ta⟩:=t;have hr:=HR.out;simp only [fO] at hr;simp only [rK] at HC;have hk1:=ho.kinds;simp only at hk1;clear HR HK ho;by_cases hk2:tk=2
  ·subst hk2
   have Z8:R=false:=by rw [←hr];rfl
   subst Z8;clear hr;go_enter Tryz.func175,Tryz.ntmps175
   go_wp2_with fail
   refine HC.out.mono ?_
   rintro e w1 ⟨rfl,hE⟩;unfold Gh;have hE2:=hE.alloc (.cells #[.int .i64 2,.string tt,.int .i64 ta] 195);go_wp2_with fail
   go_ret
   exact⟨rfl,hE2⟩
  ·have hr2:(ws.any fun s=>decide (tt=s))=R:=by rw [←hr];simp [hk2]
   have HR2:=Z_ hr2;have hb2:(tk != 2)=true:=by simpa using hk2
   have hb0:(tk != 0)=true:=by simp;omega
   clear hr hr2;go_enter Tryz.func175,Tryz.ntmps175
   go_wp2_with fail
   refine HC.out.mono ?_
   rintro e w1 ⟨rfl,hE⟩;unfold Gh;have hE2:=hE.alloc (.cells #[.int .i64 tk,.string tt,.int .i64 ta] 195);go_wp2_with fail
   refine(Z7.out tt _ hE2).mono ?_
   rintro e w2 ⟨rfl,qW⟩;rw [HR2.out];go_wp2_with fail
   go_ret
   exact⟨rfl,hE2.ext qW⟩
theorem Jq {l:List Tk} {ws:List ByteArray} (h:fO l ws=true):∃ t r,l=t::r:=by
 cases l with
 | nil=>cases h
 | cons t r=>exact⟨t,r,rfl⟩
set_option maxRecDepth 100000 in
set_option maxHeartbeats 1000000 in
theorem cZ {W w:World} {S E:Nat} {l:List Tk} (h:bu W w S E l) (s:ByteArray) :
  Calls Tryz.prog 97 #[.pointer (some ⟨S,0,none⟩),.string s] w
   fun e w'=>e=.returned (.bool (fO l [s]))∧aB (fun i=>i=S) w w'∧bu W w' S E (if fO l [s]=true then l.tail else l):=by
 have hS:=h.lt;have hP1:=h.alloc (.cells #[.string s] 9)
 have HC:=Z_ (sW hP1 w.heap.size [s] 1 1 rfl (by decide) (fun j hj=>by
  obtain rfl:j=0:=by simpa using hj
  exact(aH.made w #[.string s] 9).cell 0) (by simp))
 have hC0:aB (fun i=>i=S) w (w.alloc (.cells #[.string s] 9)):=(aB.refl _ _).alloc _;have HP:=Z_ (fun u (hE:Ext (w.alloc (.cells #[.string s] 9)) u)=>hP1.extend hE);have hl:=@Jq l [s];generalize fO l [s]=R at *;clear h hP1;cases R with
 | false=>
  clear hl;go_enter Tryz.func97,Tryz.ntmps97
  go_wp2_with fail
  refine HC.out.mono ?_
  rintro e w1 ⟨rfl,hE⟩;go_wp2_with fail
  go_ret
  exact⟨rfl,hC0.ext hE,HP.out _ hE⟩
 | true=>
  obtain⟨t,r,rfl⟩:=hl rfl;go_enter Tryz.func97,Tryz.ntmps97
  go_wp2_with fail
  refine HC.out.mono ?_
  rintro e w1 ⟨rfl,hE⟩;have hP:=HP.out _ hE;obtain⟨k,hk,hk2,oN⟩:=uH hP;obtain⟨a',n',c',k',hB,-,-⟩:=wu hP;have hf:=hB.frozen 1;have hSl:=hB.lt;have hkw:IntKind.i64.wrap ((k:Int)+1)=(k:Int)+1:=by unfold IntKind.wrap;simp only [IntKind.bits,IntKind.signed];simp;omega
  have HP2:=Z_ oN;clear oN hP hB;go_wp2_with fail
  go_ret
  exact⟨rfl,(hC0.ext hE).setCell (p:=⟨S,1,none⟩) (fun _=>rfl) _,HP2.out⟩
set_option maxRecDepth 100000 in
set_option maxHeartbeats 1000000 in
theorem cg {W w:World} {S E:Nat} {l:List Tk} (h:bu W w S E l) (g c:Nat) (s:ByteArray) (hg:w.cell? ⟨g,0,none⟩=some (.string s)) :
  Calls Tryz.prog 94 #[.pointer (some ⟨S,0,none⟩),.slice (some ⟨g,0,none⟩) 1 c] w (dZ U5 W w S E (dU s l)):=by
 have HC:=Z_ (cZ h s);have xg:=Z_ (fun (u:World) (h:bu W u S E l)=>wA h);have hT:dU s l=if fO l [s]=true then .got () l.tail else .bad l:=rfl
 obtain⟨T,hT2⟩:∃ T,dU s l=T:=⟨_,rfl⟩;rw [hT2];rw [hT2] at hT;clear hT2;generalize fO l [s]=R at *;have HT:=Z_ hT;clear h hT;go_enter Tryz.func94,Tryz.ntmps94
 go_wp2_with fail
 go_loopw [8] (fun i wr=>∃ k:Nat,i=.int .i64 k∧((k=0∧w=wr)∨(k=1∧Hid (R=true∧aB (fun i=>i=S) w wr∧bu W wr S E l.tail)))) (fun i _=>1-(intOf i).toNat)
 case atStart=>exact⟨0,rfl,.inl ⟨rfl,rfl⟩⟩
 case round=>
  obtain⟨k,rfl,⟨rfl,rfl⟩|⟨rfl,hr⟩⟩:=hrel
  ·go_wp2_with fail
   refine HC.out.mono ?_
   rintro e w1 ⟨rfl,hC,hP⟩;cases R with
   | true=>
    have HR:=Z_ (show true=true∧aB (fun i=>i=S) w w1∧bu W w1 S E l.tail from⟨rfl,hC,by simpa using hP⟩);clear hC hP;go_wp2_with fail
    go_roundw
    case rel=>exact⟨1,rfl,.inr ⟨rfl,HR⟩⟩
    case measure=>simp [intOf]
   | false=>
    have oN:bu W w1 S E l:=by simpa using hP
    have HC2:=Z_ hC;have HF:=Z_ (xg.out _ oN);clear hC hP oN;go_wp2_with fail
    refine HF.out.mono ?_
    rintro e w2 ⟨rfl,hE⟩;go_wp2_with fail
    exact⟨rfl,dZ.fails (HC2.out.ext hE) (by simpa using HT.out)⟩
  ·go_wp2_with fail
   go_end0
   obtain⟨rfl,hC,hP⟩:=hr.out;exact dZ.reads hC (by simpa using HT.out) rfl hP
set_option maxRecDepth 100000 in
set_option maxHeartbeats 1000000 in
theorem dG (k m:Int) (s:ByteArray) (a:Option Addr) (n c:Nat) (w:World) :
  Calls Tryz.prog 95 #[.int .i64 k,.string s,.int .i64 m,.slice a n c] w fun e w'=>e=.returned (.agg #[.int .i64 k,.string s,.int .i64 m,.slice a n c])∧Ext w w':=by
 obtain⟨N,hN⟩:∃ N,w.heap.size=N:=⟨_,rfl⟩;have hA:=aH.made w #[.int .i64 0,.string ⟨#[]⟩,.int .i64 0,.slice none 0 0] 24;have hX:=(aB.refl (fun _=>False) w).alloc (.cells #[.int .i64 0,.string ⟨#[]⟩,.int .i64 0,.slice none 0 0] 24);rw [hN] at hA;have hc:=hA.cell;have hf:=hA.frozen;have hl:=hA.lt;have HX:=Z_ hX;have HA:=Z_ hA;clear hX hA;go_enter Tryz.func95,Tryz.ntmps95
 go_wp2_with fail
 have hB:=aH.made w #[.int .i64 k,.string s,.int .i64 m,.slice a n c] 24;rw [hN] at hB;refine bD rfl rfl rfl hB Tryz.underlying24 rfl (by kernel_rfl) ?_
 exact⟨rfl,(aB.refl _ _).alloc _⟩
set_option maxRecDepth 100000 in
set_option maxHeartbeats 1000000 in
theorem dD {W w:World} {S E:Nat} {l:List Tk} (h:bu W w S E l) :
  Calls Tryz.prog 177 #[.pointer (some ⟨S,0,none⟩)] w (dZ U4 W w S E (dF l)):=by
 have HC:=Z_ (cZ h pq);have hT:dF l=if fO l [pq]=true then .got 1 l.tail else (dU qN l).bind fun _ l=>.got 0 l:=rfl
 obtain⟨T,hT2⟩:∃ T,dF l=T:=⟨_,rfl⟩;rw [hT2];rw [hT2] at hT;clear hT2;generalize fO l [pq]=R at *;have HT:=Z_ hT;clear h hT;go_enter Tryz.func177,Tryz.ntmps177
 go_wp2_with fail
 refine HC.out.mono ?_
 rintro e w1 ⟨rfl,hC,hP⟩;cases R with
 | true=>
  have oN:bu W w1 S E l.tail:=by simpa using hP
  have HR:=Z_ (dZ.reads (V:=U4) hC HT.out ⟨rfl,by decide,by decide⟩ oN);clear hC hP oN;go_wp2_with fail
  go_ret
  exact HR.out
 | false=>
  have oN:bu W w1 S E l:=by simpa using hP
  have HN:=Z_ (cg (oN.alloc (.cells #[.string qN] 9)) w1.heap.size 1 qN ((aH.made w1 #[.string qN] 9).cell 0));have hC2:=hC.alloc (.cells #[.string qN] 9);have HC2:=Z_ hC2;have HT2:=Z_ (show (dU qN l).bind (fun _ l=>.got 0 l)=T by have:=HT.out;simpa using this.symm);clear hC hP oN hC2 HT;go_wp2_with fail
  refine HN.out.mono ?_
  rintro e w2 hr;have hne:dU qN l≠.out:=by unfold dU;split<;>intro h<;>cases h
  obtain⟨nB,⟨l2,hp,rfl⟩|⟨x,l2,v,hp,rfl,rfl,GI⟩⟩:=hr.cases hne
  ·have HF:=Z_ (Out.aF HT2.out hp)
   have wV:=Z_ (HC2.out.then nB);clear hr hp nB hne;go_wp2_with fail
   exact⟨rfl,dZ.fails wV.out HF.out⟩
  ·have HF:=Z_ (Out.aG HT2.out hp)
   have wV:=Z_ (HC2.out.then nB);have RF:=Z_ GI;clear hr hp nB hne GI;go_wp2_with fail
   go_ret
   exact dZ.reads wV.out HF.out.symm ⟨rfl,by decide,by decide⟩ RF.out
end bn
end Go.Proofs.YtpcihajmcejliacGreatDoor
namespace Go.Proofs.YtpcihajmcejliacGreatDoor
open Go.RowKit
def dw (w:World):Prop:=∃ m,w.cell? ⟨1,0,none⟩=some (.int .i64 m)
theorem dw.aO {S:Nat→Prop} {w w':World} (h:dw w) (hc:aB S w w') (hn:¬ S 1):dw w':=by
 obtain⟨m,h⟩:=h;have hl:=World.block_lt_of_cell? w _ h;exact⟨m,by rw [hc.cell hl hn];exact h⟩
theorem dw.ext {w w':World} (h:dw w) (hc:Ext w w'):dw w':=h.aO hc id
namespace name
theorem sZ (s:ByteArray):s.data.toList.length=s.size:=by rw [Array.length_toList];rfl
set_option maxRecDepth 100000 in
set_option maxHeartbeats 1000000 in
theorem qL (s:ByteArray) (w:World) (hs:s.size≤9223372036854775807) (hv:ErrVar w) (hm:dw w) :
  Calls Tryz.prog 56 #[.string s] w fun e w'=>e=.returned (.bool (nameB s.data.toList))∧Ext w w':=by
 generalize hR:nameB s.data.toList=R;have Z9:=hR;rw [nameB] at Z9;have HR:=Z_ Z9;clear hR Z9;obtain⟨T,hT⟩:∃ T,iP s.data.toList=T:=⟨_,rfl⟩;have C1:=Z_ (fun w hv=>lexTells.Bi s w hs hv T hT);have hword:jD s.data.toList=true→T=([(1,0,s.size)],0,0):=fun h=>by rw [←hT,Gi _ h,sZ]
 have HT:=Z_ hT;obtain⟨l,c,a⟩:=T;simp only at C1;clear hT;go_enter Tryz.func56,Tryz.ntmps56
 go_wp2_with fail
 refine(C1.out _ hv).mono ?_
 rintro e w1 ⟨v,rfl,ho,hE⟩;have hfalse:jD s.data.toList=false→R=false:=fun h=>by rw [←HR.out,h];rfl
 by_cases hc:c=0
 ·subst hc
  by_cases hl:l.length=1
  ·obtain⟨⟨kd,p,n⟩,rfl⟩:=List.length_eq_one_iff.1 hl
   obtain⟨g,cap,rfl⟩:∃ g cap,v=.slice (some ⟨g,0,none⟩) 1 cap:=by
    rcases ho.2 with ⟨_,h⟩|⟨g,cap,cur,rfl,_⟩
    ·cases h
    ·exact⟨g,cap,rfl⟩
   have a0:w1.cell? ⟨g,0,none⟩=some (.int .i64 kd):=(ho.cellAt 0 (by decide)).trans rfl;have a1:w1.cell? ⟨g,1,none⟩=some (.string (s.extract p (p+n))):=(ho.cellAt 1 (by decide)).trans rfl;have hg:g<w1.heap.size:=(ho.lt g rfl).2;have hE1:=Z_ (hE.alloc (.cells #[.int .i64 0,.int .i64 a] 27));by_cases hk:kd=1
   ·subst hk
    by_cases ht:(s.data.toList.drop p).take n=s.data.toList
    ·have hw:=zu _ p n a HT.out ht
     have hx:s.extract p (p+n)=s:=by
      apply ByteArray.ext
      apply Array.ext'
      rw [lex.iY];exact ht
     have hcw:=pz _ hw;have hR2:R = !iW.contains s.data.toList:=by rw [←HR.out,hw];rfl
     have h16:s.size≤16:=by
      simp only [jD,Bool.and_eq_true,decide_eq_true_eq,sZ] at hw;exact hw.1.2
     obtain⟨B,hB⟩:∃ B,iW.contains s.data.toList=B:=⟨_,rfl⟩;rw [hB] at hcw hR2;obtain⟨m,hm2⟩:=(hm.ext (hE.alloc (.cells #[.int .i64 0,.int .i64 a] 27)))
     have hsub:((⟨#[32]⟩:ByteArray)++s++⟨#[32]⟩).data.toList=32::(s.data.toList ++ [32]):=by
      simp [ByteArray.data_append]
     have cc:=Tryz.strings_Contains ⟨#[32,100,111,32,101,108,115,101,32,103,105,118,101,115,32,104,105,103,104,32,105,102,32,105,109,112,111,114,116,32,105,110,32,108,111,119,32,109,111,100,117,108,101,32,111,117,116,32,112,114,111,99,32,112,117,98,32,114,101,116,117,114,110,32,119,104,105,108,101,32]⟩ ((⟨#[32]⟩:ByteArray)++s++⟨#[32]⟩) m _ (by decide) hm2;rw [hsub] at cc;have CC:=Z_ cc;have HCW:=Z_ hcw;rw [hx] at a1;clear cc hm2 hsub hcw hB ho hx hw ht hword hfalse hl;go_wp2_with fail
     refine CC.out.mono ?_
     rintro e w' ⟨rfl,rfl⟩;rw [HCW.out];go_wp2_with fail
     go_ret
     exact⟨bY hR2.symm,hE1.out⟩
    ·have hnw:jD s.data.toList=false:=by
      cases hw:jD s.data.toList
      ·rfl
      ·have:=hword hw
       have e1:=congrArg (fun T:List Tok×Int×Nat=>(T.1.map (·.2.1),T.1.map (·.2.2))) this;simp at e1
       obtain⟨rfl,rfl⟩:=e1;exact absurd (by rw [List.drop_zero,List.take_of_length_le (by rw [sZ];exact Nat.le_refl _)]) ht
     have hF:=hfalse hnw;obtain⟨x,hx⟩:∃ x,s.extract p (p+n)=x:=⟨_,rfl⟩
     have hxs:x≠s:=by
      intro h;rw [h] at hx;exact ht (by rw [←lex.iY,hx])
     rw [hx] at a1
     have h2:(x.toList == s.toList)=false:=by
      rw [ByteArray.toList_eq,ByteArray.toList_eq,beq_eq_false_iff_ne];intro h;exact hxs (ByteArray.ext (Array.ext' h))
     have h3:(x.data.toList == s.data.toList)=false:=by
      rw [beq_eq_false_iff_ne];intro h;exact hxs (ByteArray.ext (Array.ext' h))
     clear ho hx hnw hword hfalse hl ht hxs;go_wp2_with fail
     go_ret
     exact⟨bY hF.symm,hE1.out⟩
   ·have hF:=hfalse (by
     cases hw:jD s.data.toList
     ·rfl
     ·have:=hword hw
      have e1:=congrArg (fun T:List Tok×Int×Nat=>T.1.map (·.1)) this;simp at e1
      exact absurd e1 hk)
    have hkd:(kd == 1)=false:=by rw [beq_eq_false_iff_ne];exact hk
    clear ho hword hfalse hl hk;go_wp2_with fail
    go_ret
    exact⟨bY hF.symm,hE1.out⟩
  ·have hF:=hfalse (by
    cases hw:jD s.data.toList
    ·rfl
    ·have:=hword hw
     simp only [Prod.mk.injEq] at this;rw [this.1] at hl;exact absurd rfl hl)
   obtain⟨g,n,cap,rfl,hn⟩:∃ g n cap,v=.slice g n cap∧n=l.length:=by
    rcases ho.2 with ⟨rfl,h⟩|⟨g,cap,cur,rfl,_⟩
    ·exact⟨_,_,_,rfl,h.symm⟩
    ·exact⟨_,_,_,rfl,rfl⟩
   have hnl:((n:Int) == 1)=false:=by rw [beq_eq_false_iff_ne];omega
   clear ho hword hfalse hl hn;go_wp2_with fail
   go_ret
   exact⟨bY hF.symm,hE.alloc _⟩
 ·have hF:=hfalse (by
   cases hw:jD s.data.toList
   ·rfl
   ·have:=hword hw
    simp only [Prod.mk.injEq] at this;exact absurd this.2.1 hc)
  have hcc:(c == 0)=false:=by rw [beq_eq_false_iff_ne];exact hc
  clear ho hword hfalse hc;go_wp2_with fail
  go_ret
  exact⟨bY hF.symm,hE.alloc _⟩
end name
namespace U6
end U6
end Go.Proofs.YtpcihajmcejliacGreatDoor
