/- The parser: what a function of it stands in, a node in a local variable, and how a node is told. The walk of syntax.weigh. How large and how deep a node is, in plain Lean. What a module's declarations are, in plain Lean: its face, its imports, the first fault. How many nodes one has: the program's weight and the reference's Weight. A row in a cell grows by one, in a region that draws its order: what is known on the way. Two rows that grow side by side: variables, and procedures whose parameters lie in rows of their own. A map from words to numbers that the call itself has made; must. -/
import Derived.Deep.LoopGhost
import Derived.Deep.CutBlock
import Derived.Deep.DeepCutAuto
import Derived.Deep.AppendLies
import Derived.Maps.OwnSet
import Derived.Maps.OwnOps
import Derived.Test.YtpcihajmcejliacGreatDoorSynMo
import Derived.Test.YtpcihajmcejliacGreatDoorLexNumo
namespace Go.Proofs.YtpcihajmcejliacGreatDoor
open Go.RowKit
namespace bu
structure At (W w0 u:World) (S E A:Nat) (l:List Tk):Prop where
 pr:bz W u S E l
 aK:aB (fun i=>i=S) w0 u
 res:aC u A bK 24
 hS:S<w0.heap.size
 hA:w0.heap.size≤A
theorem At.start {W w:World} {S E:Nat} {l:List Tk} (h:bz W w S E l):At W w (w.alloc (.cells bK 24)) S E w.heap.size l:=
 ⟨h.alloc _,(aB.refl _ _).alloc _,aC.made _ _ _,h.lt,Nat.le_refl _⟩
theorem At.call {W w0 u u':World} {S E A:Nat} {l l':List Tk} (h:At W w0 u S E A l) (hC:aB (fun i=>i=S) u u') (hP:bz W u' S E l'):At W w0 u' S E A l':=by
 have h1:=h.hS;have h2:=h.hA
 exact⟨hP,h.aK.then hC,h.res.aK hC (by omega),h1,h2⟩
theorem At.extend {W w0 u u':World} {S E A:Nat} {l:List Tk} (h:At W w0 u S E A l) (hE:Ext u u'):At W w0 u' S E A l:=h.call (nN hE S) (h.pr.extend hE)
theorem At.alloc {W w0 u:World} {S E A:Nat} {l:List Tk} (h:At W w0 u S E A l) (o:Obj):At W w0 (u.alloc o) S E A l:=h.extend ((aB.refl _ _).alloc o)
theorem At.far {W w0 u u':World} {S E A N:Nat} {l:List Tk} (h:At W w0 u S E A l) (hC:aB (fun i=>i=N) u u') (hN:A<N):At W w0 u' S E A l:=by
 have h1:=h.hS;have h2:=h.hA;have h3:=h.pr.hS
 exact⟨h.pr.aK hC (by omega) (fun i e=>by omega),h.aK.trans hC (fun i hi e=>by omega),h.res.aK hC (by omega),h1,h2⟩
theorem At.lt {W w0 u:World} {S E A:Nat} {l:List Tk} (h:At W w0 u S E A l):A<u.heap.size:=h.res.lt
theorem At.U7 {W w0 u:World} {S E A:Nat} {l:List Tk} (h:At W w0 u S E A l) {N:Nat} {kind num:Int} {text:ByteArray} (hN:aC u N #[.int .i64 kind,.string text,.int .i64 num,.slice none 0 0] 24) (DK:A<N) :
  iU W w0 u S E A N l kind text num (.slice none 0 0) (.slice none 0 0) []:=iU.start h.pr h.aK h.res hN h.hS h.hA DK (EJ h.pr)
theorem iU.slice3 {W w0 u:World} {S E A N:Nat} {l:List Tk} {kind num:Int} {text:ByteArray} {kG row:Value} {acc:List Nd} (h:iU W w0 u S E A N l kind text num kG row acc):∃ a n c,row=.slice a n c:=by
 obtain⟨a,c,h⟩:=h.slice;exact⟨a,_,c,h⟩
theorem iU.at {W w0 u:World} {S E A N:Nat} {l:List Tk} {kind num:Int} {text:ByteArray} {kG row:Value} {acc:List Nd} (h:iU W w0 u S E A N l kind text num kG row acc):At W w0 u S E A l:=⟨h.pr,h.aK,h.res,h.hS,h.hA⟩
theorem cH {w:World} {x:Nd} {v:Value} (h:fN w x v):∃ k t m a n c,v=.agg #[.int .i64 k,.string t,.int .i64 m,.slice a n c]:=by
 cases x with
 | mk k t m l=>
  rw [dL] at h;obtain⟨a,c,rfl,-⟩:=h;exact⟨_,_,_,_,_,_,rfl⟩
theorem eM {W w0 u:World} {S E A:Nat} {l:List Tk} {T:Out Nd} {x:Nd} {a b c d:Value} (h:At W w0 u S E A l) (M:Nat→Bool) (hx:fN (hide M u) x (.agg #[a,b,c,d])) (hMA:M A=true) (RP:∀ i,i<w0.heap.size→M i=true) (hT:T=.got x l) :
  eC (VN w0.heap.size) W w0 S E T (.returned (.agg #[a,b,c,d])) ((((u.setCell ⟨A,0,none⟩ a).setCell ⟨A,1,none⟩ b).setCell ⟨A,2,none⟩ c).setCell ⟨A,3,none⟩ d):=by
 have h1:=h.hS;have h2:=h.hA;have hWS:=h.pr.hS
 have hC:aB (fun i=>i=A) u ((((u.setCell ⟨A,0,none⟩ a).setCell ⟨A,1,none⟩ b).setCell ⟨A,2,none⟩ c).setCell ⟨A,3,none⟩ d):=ai (ai (ai (ai (aB.refl _ _) 0 a) 1 b) 2 c) 3 d;refine eC.reads (h.aK.trans hC fun i hi e=>by omega) hT ?_ (h.pr.aK hC (by omega) (fun i e=>by omega))
 refine aX (aT (Nat.le_refl _) fun i hi hm=>⟨?_,rfl⟩) _ _ (aX (aH hC fun i _ e=>by rw [e];exact hMA) _ _ hx)
 simp only [below,decide_eq_false_iff_not];intro hlt;rw [RP i hlt] at hm;cases hm
def qI (B N:Nat):Nat→Bool:=fun i=>decide (i<B) || decide (i=N)
theorem cg {i B:Nat} (h:i<B):below B i=true:=by simpa [below] using h
theorem iR {i B N:Nat} (h:i<B):qI B N i=true:=by simp [qI,h]
structure Loc (S B N:Nat) (u:World) (x:Nd) (v:Value):Prop where
 nd:aC u N v.cells 24
 dat:fN (hide (qI B N) u) x v
 Je:S<B
 hSN:S≠N
theorem Loc.call {S B N:Nat} {u u':World} {x:Nd} {v:Value} (h:Loc S B N u x v) (hC:aB (fun i=>i=S) u u'):Loc S B N u' x v:=
 ⟨h.nd.aK hC fun e=>h.hSN e.symm,aX (aH hC fun i _ e=>by rw [e];exact iR h.Je) _ _ h.dat,h.Je,h.hSN⟩
theorem Loc.extend {S B N:Nat} {u u':World} {x:Nd} {v:Value} (h:Loc S B N u x v) (hE:Ext u u'):Loc S B N u' x v:=h.call (nN hE S)
theorem Loc.start {S B:Nat} {u:World} {x:Nd} {v:Value} (h:VN B x v u) (Je:S<B) (hB:B≤u.heap.size) {c:Array Value} (hc:v.cells=c):Loc S B u.heap.size (u.alloc (.cells c 24)) x v:=by
 subst hc;refine⟨aC.made _ _ _,aX (aT (by simp) fun i hi hm=>?_) _ _ h,Je,by omega⟩
 simp only [below,qI,decide_eq_false_iff_not,Bool.or_eq_false_iff] at hm ⊢;exact⟨⟨hm,by omega⟩,Below.heap_alloc _ _ _ hi⟩
theorem Ag {u:World} {M:Nat→Bool} {x:Nd} {v:Value} (hx:fN (hide M u) x v) (hM:M u.heap.size=false) (k m:Int) (t:ByteArray) (ht:t.size≤10000) {c:Array Value} (hc:v.cells=c) :
  fN (hide M (u.alloc (.cells c 24))) (.mk k t m [x]) (.agg #[.int .i64 k,.string t,.int .i64 m,.slice (some ⟨u.heap.size,0,none⟩) 1 1]):=by
 subst hc;have hE:=(aB.refl (fun _=>False) u).alloc (.cells v.cells 24);rw [dL];refine⟨_,1,rfl,by simp,by decide,ht,fun j hj=>⟨_,_,rfl,by rw [bT];simp,v,?_,fB hx,fun i hi=>?_⟩⟩
 ·obtain rfl:j=0:=by simpa using hj
  exact aX (aH hE fun _ _ h=>h.elim) _ _ hx
 ·obtain rfl:j=0:=by simpa using hj
  rw [gG _ _ _ hM,Nat.zero_mul,Nat.zero_add];exact(aC.made u v.cells 24).cell i
theorem O1 {u:World} {M:Nat→Bool} {x y:Nd} {v z:Value} (hx:fN (hide M u) x v) (hy:fN (hide M u) y z) (hM:M u.heap.size=false) (k m:Int) (t:ByteArray) (ht:t.size≤10000) {c:Array Value} (hc:v.cells++z.cells=c) :
  fN (hide M (u.alloc (.cells c 24))) (.mk k t m [x,y]) (.agg #[.int .i64 k,.string t,.int .i64 m,.slice (some ⟨u.heap.size,0,none⟩) 2 2]):=by
 subst hc;have hE:=(aB.refl (fun _=>False) u).alloc (.cells (v.cells++z.cells) 24);have h1:=fB hx;have h2:=fB hy;rw [dL];refine⟨_,2,rfl,by simp,by decide,ht,fun j hj=>⟨_,_,rfl,by rw [bT];simp,?_⟩⟩
 have hj2:j<2:=by simpa using hj
 by_cases e:j=0
 ·subst e
  refine⟨v,aX (aH hE fun _ _ h=>h.elim) _ _ hx,h1,fun i hi=>?_⟩
  rw [gG _ _ _ hM,Nat.zero_mul,Nat.zero_add,(aC.made u _ 24).cell i,Array.getElem?_append_left (by omega)]
 ·obtain rfl:j=1:=by omega
  refine⟨z,aX (aH hE fun _ _ h=>h.elim) _ _ hy,h2,fun i hi=>?_⟩
  rw [gG _ _ _ hM,Nat.zero_add,Nat.one_mul,(aC.made u _ 24).cell (4+i),Array.getElem?_append_right (by omega),h1];congr 1;omega
theorem lW {u:World} {B N:Nat} {x:Nd} {v:Value} (hx:VN B x v u) (hN:N+1≤B) (hB:B≤u.heap.size) {c:Array Value} (hc:v.cells=c):Grow 4 24 OH (N+1) (u.alloc (.cells c 24)) (.slice (some ⟨u.heap.size,0,none⟩) 1 1) [x]:=by
 subst hc;have hs:=fB hx;refine⟨[v],rfl,⟨by simp [hs],.inr ⟨u.heap.size,1,v.cells,rfl,by omega,heap_alloc_new u _,Nat.le_refl _,by decide,by rw [hs],by simp only [List.length_singleton,Nat.one_mul,List.flatMap_cons,List.flatMap_nil,List.append_nil];exact List.take_of_length_le (by rw [Array.length_toList,hs];exact Nat.le_refl _)⟩⟩,fun j hj hj'=>?_⟩
 obtain rfl:j=0:=by simpa using hj
 refine⟨aX (aT (by simp) fun i hi hm=>?_) _ _ hx,hs⟩
 simp only [below,bg,decide_eq_false_iff_not,Bool.or_eq_false_iff] at hm ⊢;refine⟨⟨by omega,fun e=>?_⟩,Below.heap_alloc _ _ _ hi⟩
 simp only [Value.ownBlock,Option.some.injEq] at e;omega
theorem iU.put {W w0 u:World} {S E A N:Nat} {l:List Tk} {k0 m0 kind num:Int} {t0 text:ByteArray} {r0 r1 row:Value} {af5 acc:List Nd} (h:iU W w0 u S E A N l k0 t0 m0 r0 r1 af5) (hg:Grow 4 24 OH (N+1) u row acc) (hf:acc.length+l.length≤10000) :
  iU W w0 ((((u.setCell ⟨N,0,none⟩ (.int .i64 kind)).setCell ⟨N,1,none⟩ (.string text)).setCell ⟨N,2,none⟩ (.int .i64 num)).setCell ⟨N,3,none⟩ row) S E A N l kind text num row row acc:=by
 have h1:=h.hS;have h2:=h.hA;have h3:=h.DK
 have hWS:=h.pr.hS;have hC:aB (fun i=>i=N) u ((((u.setCell ⟨N,0,none⟩ (.int .i64 kind)).setCell ⟨N,1,none⟩ (.string text)).setCell ⟨N,2,none⟩ (.int .i64 num)).setCell ⟨N,3,none⟩ row):=ai (ai (ai (ai (aB.refl _ _) 0 _) 1 _) 2 _) 3 _;refine⟨h.pr.aK hC (by omega) (fun i e=>by omega),h.aK.trans hC (fun i hi e=>by omega),h.res.aK hC (by omega),?_,hg.aK fP hC (fun i e=>by omega),h1,h2,h3,hf⟩
 have:=(((h.nd.set 0 (.int .i64 kind)).set 1 (.string text)).set 2 (.int .i64 num)).set 3 row;exact this
end bu
end Go.Proofs.YtpcihajmcejliacGreatDoor
namespace Go.Proofs.YtpcihajmcejliacGreatDoor
open Go.RowKit
mutual
/-- is a node neither too deep nor of too many? g: how many levels more may be; m: how many nodes there were -/
def fA:Nat→Nd→Nat→Bool×Nat
 | 0,_,m=>(false,m+1)
 | g+1,.mk _ _ _ l,m=>if 500<m+1 then (false,m+1) else iG g l (m+1)
def iG:Nat→List Nd→Nat→Bool×Nat
 | _,[],m=>(true,m)
 | g,x::r,m=>if (fA g x m).1=true then iG g r (fA g x m).2 else (false,(fA g x m).2)
end
namespace bu
theorem LC:∀ g x m,(fA g x m).2≤max m 500+1∧((fA g x m).1=true→(fA g x m).2≤500):=by
 intro g;induction g with
 | zero=>intro x m;simp only [fA];exact⟨by omega,fun h=>by cases h⟩
 | succ g ih=>
  have hl:∀ (l:List Nd) (m:Nat),m≤500→(iG g l m).2≤501∧((iG g l m).1=true→(iG g l m).2≤500):=by
   intro l;induction l with
   | nil=>intro m hm;simp only [iG];exact⟨by omega,fun _=>hm⟩
   | cons x r ih2=>
    intro m hm;obtain⟨h1,h2⟩:=ih x m;simp only [iG];split
    ·rename_i h;exact ih2 _ (h2 h)
    ·exact⟨by simp only;omega,fun h=>by cases h⟩
  intro x m;cases x with
  | mk k t n l=>
   simp only [fA];split
   ·exact⟨by simp only;omega,fun h=>by cases h⟩
   ·obtain⟨h1,h2⟩:=hl l (m+1) (by omega)
    exact⟨by omega,h2⟩
theorem C0 {g m k:Nat} {l:List Nd} (h:k<l.length):iG g (l.drop k) m=if (fA g l[k] m).1=true then iG g (l.drop (k+1)) (fA g l[k] m).2 else (false,(fA g l[k] m).2):=by
 rw [List.drop_eq_getElem_cons h];simp only [iG]
set_option maxRecDepth 100000 in
set_option maxHeartbeats 4000000 in
theorem Ir (g:Nat):∀ (x:Nd) (v:Value) (w:World) (M m:Nat) (d:Int) (H:Nat→Bool),fN (hide H w) x v→H M=true→aC w M #[.int .i64 (m:Nat)] 3→m≤500→d=17-(g:Int)→g≤17→
  Calls Tryz.prog 49 #[v,.int .i64 d,.pointer (some ⟨M,0,none⟩)] w fun e w'=>e=.returned (.bool (fA g x m).1)∧aB (fun i=>i=M) w w'∧aC w' M #[.int .i64 ((fA g x m).2:Nat)] 3:=by
 induction g with
 | zero=>
  intro x v w M m d H hx hH hM hm hd hg;obtain⟨k,t,n,a,c,cc,rfl⟩:=cH hx;have hM1:=hM.alloc (.cells #[.int .i64 k,.string t,.int .i64 n,.slice a c cc] 24);have hc:=hM1.cell 0;have hf:=hM1.frozen 0;have hl:=hM1.lt;simp at hc
  have hw1:IntKind.i64.wrap ((m:Int)+1)=((m+1:Nat):Int):=by rw [wrap_small _ (by omega) (by omega)];rfl
  have hd2:d=17:=by omega
  subst hd2;have HM:=Z_ hM1;have HC:=Z_ ((aB.refl (fun i=>i=M) w).alloc (.cells #[.int .i64 k,.string t,.int .i64 n,.slice a c cc] 24));simp only [fA];clear hM hM1 hx hd hg;go_enter Tryz.func49,Tryz.ntmps49
  go_wp2_with fail
  go_ret
  exact⟨rfl,ai HC.out 0 _,HM.out.set 0 _⟩
 | succ g ih=>
  intro x v w M m d H hx hH hM hm hd hg;cases x with
  | mk k t n l=>
   rw [dL] at hx;obtain⟨a,cc,rfl,hx1,hx2,hx3,Qk⟩:=hx;obtain⟨N,hN⟩:∃ N,l.length=N:=⟨_,rfl⟩;have Oa:N≤9223372036854775807:=by unfold maxLen at hx2;omega
   have HN:=Z_ hN;rw [hN];have hM1:=hM.alloc (.cells #[.int .i64 k,.string t,.int .i64 n,.slice a N cc] 24);have hc:=hM1.cell 0;have hf:=hM1.frozen 0;have hlM:=hM1.lt;simp at hc
   obtain⟨m1,Xx⟩:∃ q,m+1=q:=⟨_,rfl⟩;have hw1:IntKind.i64.wrap ((m:Int)+1)=(m1:Int):=by rw [wrap_small _ (by omega) (by omega)];omega
   have hdd:¬ (16<d):=by omega
   have hdw:IntKind.i64.wrap (d+1)=17-(g:Int):=by rw [wrap_small _ (by omega) (by omega)];omega
   have ak5:wrap64 (d+1)=17-(g:Int):=by unfold wrap64;omega
   have hMw:=hM.lt;have hcm:(w.setCell ⟨M,0,none⟩ (.int .i64 (m1:Nat))).cell? ⟨M,0,none⟩=some (.int .i64 (m1:Nat)):=(hM.set 0 (.int .i64 (m1:Nat))).cell 0;have ak6:decide (16<d)=false:=by simpa using hdd
   clear hd;obtain⟨K,hK⟩:∃ K,w.heap.size=K:=⟨_,rfl⟩;rw [hK] at hMw;obtain⟨R,hR⟩:∃ R,fA (g+1) (.mk k t n l) m=R:=⟨_,rfl⟩;rw [hR];simp only [fA] at hR;rw [Xx] at hR;have HR:=Z_ hR;have hM2:=(hM.set 0 (.int .i64 (m1:Nat))).alloc (.cells #[.int .i64 k,.string t,.int .i64 n,.slice a N cc] 24);have hK2:=aC.made (w.setCell ⟨M,0,none⟩ (.int .i64 (m1:Nat))) #[.int .i64 k,.string t,.int .i64 n,.slice a N cc] 24;rw [World.size_setCell,hK] at hK2;have hX:=(ai (aB.refl (fun i=>i=M) w) 0 (.int .i64 (m1:Nat))).alloc (.cells #[.int .i64 k,.string t,.int .i64 n,.slice a N cc] 24);have hK3:=hK2.cell;have FQ:=Z_ hM2;have HX:=Z_ hX;have HI:=Z_ (fun (u:World) (hC:aB (fun i=>i=M) w u)=>Qk.keeps (aH hC fun i _ e=>by rw [e];exact hH) fun b o y=>g_ (aH hC fun i _ e=>by rw [e];exact hH) b o y)
   clear hM hM1 hR hM2 hX Qk hK2 hN;by_cases hb:500<m1
   ·have HR2:=Z_ (show R=(false,m1) by have:=HR.out;rw [if_pos hb] at this;exact this.symm)
    have hb2:(500:Int)<(m1:Int):=by omega
    clear HR;go_enter Tryz.func49,Tryz.ntmps49
    go_wp2_with fail
    go_ret
    rw [HR2.out];exact⟨rfl,HX.out,FQ.out⟩
   ·have HR2:=Z_ (show iG g l m1=R by have:=HR.out;rw [if_neg hb] at this;exact this)
    have hb2:¬ ((500:Int)<(m1:Int)):=by omega
    have hm1:m1≤500:=by omega
    clear HR hb Xx;go_enter Tryz.func49,Tryz.ntmps49
    go_wp2_with fail
    have HI2:=Z_ (HI.out _ HX.out);clear hc hf hlM hw1 hb2 hK3;have hX9:=HX.out;have ZE:=FQ.out;generalize (w.setCell ⟨M,0,none⟩ (.int .i64 (m1:Nat))).alloc (.cells #[.int .i64 k,.string t,.int .i64 n,.slice a N cc] 24)=w1 at *;go_loopw [25] (fun i wr=>∃ q mm:Nat,q≤N∧i=.int .i64 q∧mm≤500∧Hid (iG g (l.drop q) mm=R)∧aB (fun i=>i=M) w wr∧aC wr M #[.int .i64 (mm:Nat)] 3) (fun i _=>N-(intOf i).toNat)
    case atStart=>exact⟨0,m1,Nat.zero_le _,rfl,hm1,HR2,hX9,ZE⟩
    case round=>
     obtain⟨q,mm,hq,rfl,hmm,hr,hC,hB⟩:=hrel;by_cases hlt:q<N
     ·have kW:q<l.length:=by rw [HN.out];exact hlt
      have hqi:(q:Int)<(N:Int):=by omega
      obtain⟨b,o,rfl,hb,u,hu,hus,hcl⟩:=HI.out wr hC q kW;obtain⟨k1,t1,n1,a1,l1,c1,rfl⟩:=cH hu;have q0:wr.cell? ⟨b,o+q*4,none⟩=some (.int .i64 k1):=(ah H wr).2 _ _ ((hcl 0 (by decide)).trans rfl);have q1:wr.cell? ⟨b,o+q*4+1,none⟩=some (.string t1):=(ah H wr).2 _ _ ((hcl 1 (by decide)).trans rfl);have q2:wr.cell? ⟨b,o+q*4+2,none⟩=some (.int .i64 n1):=(ah H wr).2 _ _ ((hcl 2 (by decide)).trans rfl);have q3:wr.cell? ⟨b,o+q*4+3,none⟩=some (.slice a1 l1 c1):=(ah H wr).2 _ _ ((hcl 3 (by decide)).trans rfl);have hE:=(aB.refl (fun _=>False) wr).alloc (.cells #[.int .i64 k1,.string t1,.int .i64 n1,.slice a1 l1 c1] 24);have HP:=Z_ ((aC.made wr #[.int .i64 k1,.string t1,.int .i64 n1,.slice a1 l1 c1] 24));have hPc:=HP.out.cell;have HIH:=Z_ (ih l[q] _ (wr.alloc (.cells #[.int .i64 k1,.string t1,.int .i64 n1,.slice a1 l1 c1] 24)) M mm (17-(g:Int)) H (aX (aH hE fun _ _ h=>h.elim) _ _ hu) hH (hB.ext hE) hmm rfl (by omega))
      have hr2:=hr.out;rw [C0 kW] at hr2;have hle:=LC g l[q] mm;generalize fA g l[q] mm=Q at *;obtain⟨qb,qm⟩:=Q;simp only at hr2 hle HIH;have HR3:=Z_ hr2;have gu:=Z_ hle;have wu:=Z_ (hC.ext hE);clear hr hr2 hcl hu hE hC hB hle;go_wp2_with fail
      refine HIH.out.mono ?_
      rintro e w5 ⟨rfl,hC5,Z8⟩;have Tc:=Z_ (wu.out.then hC5);have M_:=Z_ Z8;clear hC5 Z8;cases qb with
      | true=>
       have PK:=Z_ (show iG g (l.drop (q+1)) qm=R by have:=HR3.out;simpa using this);have hqm:=gu.out.2 rfl;clear HR3 gu;go_wp2_with fail
       go_roundw
       case rel=>exact⟨q+1,qm,by omega,by go_num,hqm,PK,Tc.out,M_.out⟩
       case measure=>simp [intOf];omega
      | false=>
       have PK:=Z_ (show R=(false,qm) by have:=HR3.out;simpa using this.symm);clear HR3 gu;go_wp2_with fail
       go_ret
       rw [PK.out];exact⟨rfl,Tc.out,M_.out⟩
     ·obtain rfl:q=N:=by omega
      have hT:=Z_ (show R=(true,mm) by have:=hr.out;rw [List.drop_of_length_le (by rw [HN.out];exact Nat.le_refl _)] at this;simp only [iG] at this;exact this.symm);clear hr;go_wp2_with fail
      go_ret
      rw [hT.out];exact⟨rfl,hC,hB⟩
end bu
end Go.Proofs.YtpcihajmcejliacGreatDoor
namespace Go.Proofs.YtpcihajmcejliacGreatDoor
open Go.RowKit
mutual
def fL:Nd→Nat
 | .mk _ _ _ l=>kV l+1
def kV:List Nd→Nat
 | []=>0
 | x::r=>fL x+kV r
end
mutual
def U8:Nd→Nat
 | .mk _ _ _ l=>Xy l+1
def Xy:List Nd→Nat
 | []=>0
 | x::r=>max (U8 x) (Xy r)
end
theorem JQ (x:Nd):1≤fL x:=by cases x;simp only [fL];omega
theorem Td (x:Nd):1≤U8 x:=by cases x;simp only [U8];omega
theorem yY:∀ g x m,m≤500→((fA g x m).1=true↔U8 x≤g∧m+fL x≤500)∧((fA g x m).1=true→(fA g x m).2=m+fL x):=by
 intro g;induction g with
 | zero=>
  intro x m hm;have:=Td x;simp only [fA];exact⟨⟨fun h=>(by cases h),fun h=>by omega⟩,fun h=>by cases h⟩
 | succ g ih=>
  have hl:∀ (l:List Nd) (m:Nat),m≤500→((iG g l m).1=true↔Xy l≤g∧m+kV l≤500)∧((iG g l m).1=true→(iG g l m).2=m+kV l):=by
   intro l;induction l with
   | nil=>intro m hm;simp only [iG,Xy,kV];exact⟨⟨fun _=>⟨by omega,by omega⟩,fun _=>trivial⟩,fun _=>rfl⟩
   | cons x r ih2=>
    intro m hm;obtain⟨h1,h2⟩:=ih x m hm;simp only [iG,Xy,kV];by_cases hx:(fA g x m).1=true
    ·rw [if_pos hx]
     have e:=h2 hx;obtain⟨h3,h4⟩:=h1.1 hx;rw [e];obtain⟨h5,h6⟩:=ih2 (m+fL x) h4;refine⟨h5.trans ⟨fun h=>⟨by omega,by omega⟩,fun h=>⟨by omega,by omega⟩⟩,fun h=>by rw [h6 h];omega⟩
    ·rw [if_neg hx]
     refine⟨⟨fun h=>(by cases h),fun h=>absurd (h1.2 ⟨by omega,by omega⟩) hx⟩,fun h=>by cases h⟩
  intro x m hm;cases x with
  | mk k t n l=>
   simp only [fA,U8,fL];by_cases h:500<m+1
   ·rw [if_pos h]
    exact⟨⟨fun h=>(by cases h),fun h=>by omega⟩,fun h=>by cases h⟩
   ·rw [if_neg h]
    obtain⟨h1,h2⟩:=hl l (m+1) (by omega);exact⟨h1.trans ⟨fun h=>⟨by omega,by omega⟩,fun h=>⟨by omega,by omega⟩⟩,fun h=>by rw [h2 h];omega⟩
theorem CY {l:List Nd} {k:Nat} (h:k<l.length):kV (l.drop k)=fL l[k]+kV (l.drop (k+1)):=by
 rw [List.drop_eq_getElem_cons h];simp only [kV]
end Go.Proofs.YtpcihajmcejliacGreatDoor
namespace Go.Proofs.YtpcihajmcejliacGreatDoor
open Go.RowKit
def Nd.kd:Nd→Int
 | .mk k _ _ _=>k
def Nd.tx:Nd→ByteArray
 | .mk _ t _ _=>t
def Nd.nm:Nd→Int
 | .mk _ _ m _=>m
structure Lp (x:Nd):Prop where
 kd:x.kd=2
 nm:x.nm=0
 kids:x.kids=[]
structure Le (x:Nd):Prop where
 kd:x.kd=3
 nm:0≤x.nm∧x.nm≤3
 kids:x.kids=[]∨∃ y,x.kids=[y]∧0≤y.nm∧y.nm<9223372036854775808
structure xA (x:Nd):Prop where
 kd:x.kd=4
 nm:0≤x.nm∧x.nm≤11
 kids:∃ ps b,x.kids=ps ++ [b]∧∀ p∈ps,0≤p.nm∧p.nm≤1
def qi (x:Nd):Prop:=Lp x∨Le x∨xA x
def varOf (x:Nd):eY:=⟨x.tx,decide (2≤x.nm % 4),x.nm % 2,match x.kids with
 | []=>0
 | y::_=>y.nm⟩
def ry (x:Nd):aI:=⟨x.tx,decide (2≤x.nm % 4),x.kids.dropLast.map Nd.nm,x.nm % 2,decide (4≤x.nm),x.nm / 8⟩
def CU (x:Nd):Bool:=decide (x.kd=2)
def isVar (x:Nd):Bool:=decide (x.kd=3)
def jO (x:Nd):Bool:=decide (x.kd=4)
def dK (l:List Nd):List ByteArray:=(l.filter CU).map Nd.tx
def dP (l:List Nd):List eY:=(l.filter isVar).map varOf
def aP (l:List Nd):List aI:=(l.filter jO).map ry
def Nd.key (x:Nd):List UInt8:=x.tx.data.toList
def EG (p:Nat):Nat→List (List UInt8)→List Nd→Int×Nat
 | _,_,[]=>(0,0)
 | j,seen,x::r=>if seen.contains x.key=true then (5,p+1+j) else EG p (j+1) (seen ++ [x.key]) r
def qM (x:Nd) (p:Nat):Int×Nat:=
 if x.kd=3 then match x.kids with
  | []=>(0,0)
  | y::_=>if 1≤y.nm∧y.nm≤64 then (0,0) else (6,p)
 else if 5<x.kids.dropLast.length then (1,p) else EG p 0 [] x.kids.dropLast
def gQ (modn:ByteArray):List Nd→List (List UInt8)→List (List UInt8)→Nat→Int×Nat
 | [],_,_,_=>(0,0)
 | x::r,O3,names,p=>
  if x.kd=2 then (if O3.contains x.key=true then (5,p) else if x.tx=modn then (5,p) else if 5≤O3.length then (1,p) else gQ modn r (O3 ++ [x.key]) names (p+fL x))
  else if names.contains x.key=true then (5,p) else if 20≤names.length then (1,p) else if (qM x p).1=0 then gQ modn r O3 (names ++ [x.key]) (p+fL x) else qM x p
namespace ofm
open bF
theorem lX {l r:List Tk} {b:Int} (h:dG l=.got b r):0≤b∧b≤1:=by
 unfold dG at h;split at h
 ·injection h with h1 _;omega
 ·obtain⟨_,_,_,h2⟩:=ag h
  injection h2 with h1 _;omega
theorem Iu:∀ (n:Nat) (s:ByteArray) (dR:Int) (acc:List Nd) (l:List Tk) (x:Nd) (r:List Tk),(∀ p∈acc,0≤p.nm∧p.nm≤1)→0≤dR→dR≤2→bJ n (.params s dR acc) l=.got x r→xA x:=by
 intro n;induction n with
 | zero=>intro s dR acc l x r _ _ _ h;cases h
 | succ n ih=>
  intro s dR acc l x r hacc h0 h2 h
  have hdone:∀ (acc:List Nd) (l:List Tk),(∀ p∈acc,0≤p.nm∧p.nm≤1)→((dY dN l).bind fun _ l=>(dG l).bind fun b l=>
    if fK l [oZ]=true then (dG l.tail).bind fun g l=>(bJ n .block l).bind fun x l=>.got (.mk 4 s (dR+b+(4+4*g)) (acc ++ [x])) l
    else (bJ n .block l).bind fun x l=>.got (.mk 4 s (dR+b) (acc ++ [x])) l)=Out.got x r→xA x:=by
   intro acc l hacc h;obtain⟨_,l1,_,h⟩:=ag h;obtain⟨b,l2,hb,h⟩:=ag h;have hb:=lX hb;split at h
   ·obtain⟨g,l3,hg,h⟩:=ag h
    have hg:=lX hg;obtain⟨y,l4,_,h⟩:=ag h;injection h with h1 _
    subst h1;exact⟨rfl,⟨by show 0≤dR+b+(4+4*g);omega,by show dR+b+(4+4*g)≤11;omega⟩,acc,y,rfl,hacc⟩
   ·obtain⟨y,l4,_,h⟩:=ag h
    injection h with h1 _
    subst h1;exact⟨rfl,⟨by show 0≤dR+b;omega,by show dR+b≤11;omega⟩,acc,y,rfl,hacc⟩
  simp only [bJ] at h;split at h
  ·exact hdone _ _ hacc h
  ·obtain⟨b,l1,hb,h⟩:=ag h
   obtain⟨p,l2,_,h⟩:=ag h;have hb:=lX hb
   have C7:∀ q∈acc ++ [Nd.mk 5 p b []],0≤q.nm∧q.nm≤1:=by
    intro q hq;rw [List.mem_append,List.mem_singleton] at hq;rcases hq with hq|rfl
    ·exact hacc q hq
    ·exact hb
   split at h
   ·exact ih _ _ _ _ _ _ C7 h0 h2 h
   ·exact hdone _ _ C7 h
theorem bP {l:List Tk} (h:∀ t∈l,jF t):∀ t∈l.tail,jF t:=fun t ht=>h t (List.mem_of_mem_tail ht)
theorem gV {s:ByteArray} {l r:List Tk} {u:Unit} (h:dY s l=.got u r) (ho:∀ t∈l,jF t):∀ t∈r,jF t:=by
 unfold dY at h;split at h
 ·injection h with _ h2
  subst h2;exact bP ho
 ·cases h
theorem jq {s:ByteArray} {l r:List Tk} (h:fH l=.got s r) (ho:∀ t∈l,jF t):∀ t∈r,jF t:=by
 cases l with
 | nil=>cases h
 | cons t q=>
  simp only [fH] at h;split at h
  ·injection h with _ h2
   subst h2;exact bP ho
  ·cases h
theorem LD {x:Nd} {l r:List Tk} (h:fD l=.got x r):∃ t,t∈l.head?∧t.kind=2∧x=.mk 15 aU (valOf t.text) []:=by
 cases l with
 | nil=>cases h
 | cons t q=>
  simp only [fD] at h;split at h
  ·rename_i hk
   injection h with h1 _
   exact⟨t,rfl,hk,h1.symm⟩
  ·cases h
theorem mV {b:Int} {l r:List Tk} (h:dG l=.got b r) (ho:∀ t∈l,jF t):∀ t∈r,jF t:=by
 unfold dG at h;split at h
 ·injection h with _ h2
  subst h2;exact bP ho
 ·obtain⟨_,l2,h1,h2⟩:=ag h
  have:=gV h1 ho;injection h2 with _ h2
  subst h2;exact this
theorem sV {l r:List Tk} (h:r <:+ l) (ho:∀ t∈l,jF t):∀ t∈r,jF t:=fun t ht=>ho t (h.subset ht)
theorem oD (l:List Tk):l.tail <:+ l:=List.tail_suffix l
theorem xH {s:ByteArray} {l r:List Tk} {u:Unit} (h:dY s l=.got u r):r <:+ l:=by
 unfold dY at h;split at h
 ·injection h with _ h2
  subst h2;exact oD l
 ·cases h
theorem xI {s:ByteArray} {l r:List Tk} (h:fH l=.got s r):r <:+ l:=by
 cases l with
 | nil=>cases h
 | cons t q=>
  simp only [fH] at h;split at h
  ·injection h with _ h2
   subst h2;exact oD (t::q)
  ·cases h
theorem O4 {x:Nd} {l r:List Tk} (h:fD l=.got x r):r <:+ l:=by
 cases l with
 | nil=>cases h
 | cons t q=>
  simp only [fD] at h;split at h
  ·injection h with _ h2
   subst h2;exact oD (t::q)
  ·cases h
theorem O5 {b:Int} {l r:List Tk} (h:dG l=.got b r):r <:+ l:=by
 unfold dG at h;split at h
 ·injection h with _ h2
  subst h2;exact oD l
 ·obtain⟨_,l2,h1,h2⟩:=ag h
  have:=xH h1;injection h2 with _ h2
  subst h2;exact this
theorem oG {s:ByteArray} {l r:List Tk} (h:iL l=.got s r):r <:+ l:=by
 unfold iL at h;obtain⟨y,q,h1,h2⟩:=ag h;have a1:=xI h1;split at h2
 ·obtain⟨z,q2,h3,h4⟩:=ag h2
  have a2:=xI h3;injection h4 with _ h5
  subst h5;exact a2.trans ((oD q).trans a1)
 ·injection h2 with _ h5
  subst h5;exact a1
theorem LG {l r:List Tk} {x y:Nd} (h:kN x l=.got y r):r <:+ l:=by
 unfold kN at h;obtain⟨z,q2,h3,h4⟩:=ag h;have:=xH h3;injection h4 with _ h5
 subst h5;exact this
def C9 {α : Type} (l:List Tk) (o:Out α):Prop:=∀ x r,o=.got x r→r <:+ l
theorem C9.mono {α : Type} {l l1:List Tk} {o:Out α} (h:C9 l1 o) (h1:l1 <:+ l):C9 l o:=fun x r e=>(h x r e).trans h1
theorem jT {r l:List Tk} (h:r <:+ l):r.tail <:+ l:=(oD r).trans h
theorem Gf {α : Type} {l r:List Tk} (x:α) (h:r <:+ l):C9 l (.got x r):=fun y q e=>by
 injection e with _ e2
 subst e2;exact h
theorem xJ {α β : Type} {l:List Tk} {o:Out α} {f:α→List Tk→Out β} (h:C9 l o) (hf:∀ y l1,l1 <:+ l→C9 l (f y l1)):C9 l (o.bind f):=fun x r e=>by
 obtain⟨y,q,h1,h2⟩:=ag e;exact hf y q (h y q h1) x r h2
theorem Ah {α : Type} {l:List Tk} {p:Prop} [Decidable p] {a b:Out α} (ha:C9 l a) (hb:C9 l b):C9 l (if p then a else b):=by
 split
 ·exact ha
 ·exact hb
theorem xK {l l1:List Tk} {s:ByteArray} (h:l1 <:+ l):C9 l (dY s l1):=fun _ _ e=>(xH e).trans h
theorem sW {l l1:List Tk} (h:l1 <:+ l):C9 l (fH l1):=fun _ _ e=>(xI e).trans h
theorem vU {l l1:List Tk} (h:l1 <:+ l):C9 l (fD l1):=fun _ _ e=>(O4 e).trans h
theorem vV {l l1:List Tk} (h:l1 <:+ l):C9 l (dG l1):=fun _ _ e=>(O5 e).trans h
theorem yZ {l l1:List Tk} (h:l1 <:+ l):C9 l (iL l1):=fun _ _ e=>(oG e).trans h
theorem xM {l l1:List Tk} {x:Nd} (h:l1 <:+ l):C9 l (kN x l1):=fun _ _ e=>(LG e).trans h
theorem C_ (n:Nat):∀ (X:NT) (l:List Tk),C9 l (bJ n X l):=by
 induction n with
 | zero=>intro X l x r h;cases X<;>cases h
 | succ n ih=>
  intro X l;have h0:l <:+ l:=List.suffix_refl l;cases X<;>simp only [bJ]
  case decl=>
   cases fK l [sN]
   ·simp only [Bool.false_eq_true,↓reduceIte]
    repeat' first
     | exact xK (by assumption)
     | exact sW (by assumption)
     | exact vU (jT (by assumption))
     | exact vV (by assumption)
     | exact xM (by assumption)
     | exact(ih _ _).mono (jT (by assumption))
     | refine Ah ?_ ?_
     | refine xJ ?_ fun _ _ _=>?_
   ·simp only [↓reduceIte]
    have h1:=jT h0
    repeat' first
     | exact xK (by assumption)
     | exact sW (by assumption)
     | exact vU (jT (by assumption))
     | exact vV (by assumption)
     | exact xM (by assumption)
     | exact(ih _ _).mono (jT (by assumption))
     | refine Ah ?_ ?_
     | refine xJ ?_ fun _ _ _=>?_
  all_goals repeat' first
   | exact Gf _ (by assumption)
   | exact Gf _ (jT (by assumption))
   | exact xK (by assumption)
   | exact sW (by assumption)
   | exact sW (jT (by assumption))
   | exact vU (by assumption)
   | exact vU (jT (by assumption))
   | exact vV (by assumption)
   | exact vV (jT (by assumption))
   | exact yZ (by assumption)
   | exact yZ (jT (by assumption))
   | exact xM (by assumption)
   | exact(ih _ _).mono (by assumption)
   | exact(ih _ _).mono (jT (by assumption))
   | refine Ah ?_ ?_
   | refine xJ ?_ fun _ _ _=>?_
theorem O6 (n:Nat) (X:NT) (l:List Tk) (x:Nd) (r:List Tk) (h:bJ n X l=.got x r):r <:+ l:=C_ n X l x r h
theorem Gg (n:Nat) (X:NT) (l:List Tk) (x:Nd) (r:List Tk) (ho:∀ t∈l,jF t) (h:bJ n X l=.got x r):∀ t∈r,jF t:=sV (O6 n X l x r h) ho
theorem O7 (n:Nat) (l:List Tk) (x:Nd) (r:List Tk) (ho:∀ t∈l,jF t) (h:bJ n .decl l=.got x r):qi x:=by
 cases n with
 | zero=>cases h
 | succ n=>
  simp only [bJ] at h;generalize hl:(if fK l [sN]=true then l.tail else l)=l1 at h;generalize hp:(if fK l [sN]=true then (2:Int) else 0)=dR at h;have hp2:0≤dR∧dR≤2:=by rw [←hp];split<;>omega
  have ho1:∀ t∈l1,jF t:=by rw [←hl];split;exact bP ho;exact ho
  split at h
  ·cases n with
   | zero=>cases h
   | succ n=>
    simp only [bJ] at h;obtain⟨s,l2,_,h⟩:=ag h;obtain⟨_,l3,_,h⟩:=ag h;exact .inr (.inr (Iu _ _ _ _ _ _ _ (fun p hp=>by cases hp) hp2.1 hp2.2 h))
  ·obtain⟨b,l2,hb,h⟩:=ag h
   have hb2:=lX hb;have ho2:=mV hb ho1;obtain⟨s,l3,hs,h⟩:=ag h;have ho3:=jq hs ho2
   have Qo:∀ (y:Nd) (q:List Tk),kN y q=Out.got x r→x=y:=by
    intro y q h;obtain⟨_,l5,_,h⟩:=ag h;injection h with h1 _
    exact h1.symm
   split at h
   ·obtain⟨y,l4,hy,h⟩:=ag h
    obtain⟨t,ht,hk,rfl⟩:=LD hy;obtain⟨_,l5,_,h⟩:=ag h;have e:=Qo _ _ h;subst e;have hv:=(bP ho3 t (List.mem_of_mem_head? ht)).num hk;refine .inr (.inl ⟨rfl,⟨by show 0≤b+dR;omega,by show b+dR≤3;omega⟩,.inr ⟨_,rfl,by show (0:Int)≤valOf t.text;unfold valOf;omega,by show valOf t.text<_;unfold valOf;omega⟩⟩)
   ·have e:=Qo _ _ h
    subst e;exact .inr (.inl ⟨rfl,⟨by show 0≤b+dR;omega,by show b+dR≤3;omega⟩,.inl rfl⟩)
theorem LH:∀ (n:Nat) (s:ByteArray) (acc:List Nd) (l:List Tk) (x:Nd) (r:List Tk),(∀ t∈l,jF t)→(∀ p∈acc,qi p)→bJ n (.decls s acc) l=.got x r→∃ kids,x=.mk 1 s 0 kids∧∀ p∈kids,qi p:=by
 intro n;induction n with
 | zero=>intro s acc l x r _ _ h;cases h
 | succ n ih=>
  intro s acc l x r ho hacc h;simp only [bJ] at h;split at h
  ·injection h with h1 _
   exact⟨acc,h1.symm,hacc⟩
  ·obtain⟨y,l2,hy,h⟩:=ag h
   refine ih s (acc ++ [y]) l2 x r ?_ ?_ h
   ·exact Gg _ _ _ _ _ ho hy
   ·intro q hq
    rw [List.mem_append,List.mem_singleton] at hq;rcases hq with hq|rfl
    ·exact hacc q hq
    ·exact O7 _ _ _ _ ho hy
theorem EK:∀ (n:Nat) (s:ByteArray) (acc:List Nd) (l:List Tk) (x:Nd) (r:List Tk),(∀ t∈l,jF t)→(∀ p∈acc,qi p)→bJ n (.imports s acc) l=.got x r→∃ kids,x=.mk 1 s 0 kids∧∀ p∈kids,qi p:=by
 intro n;induction n with
 | zero=>intro s acc l x r _ _ h;cases h
 | succ n ih=>
  intro s acc l x r ho hacc h;simp only [bJ] at h;split at h
  ·obtain⟨y,l2,hy,h⟩:=ag h
   have ho2:=jq hy (bP ho);obtain⟨_,l3,h3,h⟩:=ag h;have ho3:=gV h3 ho2;refine ih s (acc ++ [.mk 2 y 0 []]) l3 x r ho3 ?_ h
   intro q hq;rw [List.mem_append,List.mem_singleton] at hq;rcases hq with hq|rfl
   ·exact hacc q hq
   ·exact .inl ⟨rfl,rfl,rfl⟩
  ·exact LH _ _ _ _ _ _ ho hacc h
theorem Iw (n:Nat) (l:List Tk) (x:Nd) (r:List Tk) (ho:∀ t∈l,jF t) (h:bJ n .module l=.got x r):∃ s kids,x=.mk 1 s 0 kids∧∀ p∈kids,qi p:=by
 cases n with
 | zero=>cases h
 | succ n=>
  simp only [bJ] at h;obtain⟨_,l1,h1,h⟩:=ag h;have ho1:=gV h1 ho;obtain⟨s,l2,h2,h⟩:=ag h;have ho2:=jq h2 ho1;obtain⟨_,l3,h3,h⟩:=ag h;obtain⟨kids,h4,h5⟩:=EK _ _ _ _ _ _ (gV h3 ho2) (fun p hp=>by cases hp) h;exact⟨s,kids,h4,h5⟩
end ofm
end Go.Proofs.YtpcihajmcejliacGreatDoor
namespace Go.Proofs.YtpcihajmcejliacGreatDoor
open Go.RowKit
namespace VH
open bu
theorem DY (l:List Nd) (q:Nat):kV (l.drop q)≤kV l:=by
 induction l generalizing q with
 | nil=>simp
 | cons x r ih=>
  cases q with
  | zero=>simp
  | succ q=>
   have:=ih q;simp only [List.drop_succ_cons,kV];omega
set_option maxRecDepth 100000 in
set_option maxHeartbeats 4000000 in
theorem xE:∀ (x:Nd) (v:Value) (w:World) (H:Nat→Bool),fN (hide H w) x v→fL x≤100000→
  Calls Tryz.prog 114 #[v] w fun e w'=>e=.returned (.int .i64 (fL x:Nat))∧Ext w w':=by
 refine rq fun k t n l ih v w H hx hmo=>?_
 rw [dL] at hx;obtain⟨a,cc,rfl,hx1,hx2,hx3,Qk⟩:=hx;obtain⟨N,hN⟩:∃ N,l.length=N:=⟨_,rfl⟩;have Oa:N≤9223372036854775807:=by unfold maxLen at hx2;omega
 have HN:=Z_ hN;rw [hN];have HIH:=Z_ ih;have HI:=Z_ (fun (u:World) (hE:Ext w u)=>Qk.keeps (aH hE fun i _ e=>e.elim) fun b o y=>g_ (aH hE fun i _ e=>e.elim) b o y);obtain⟨R,hR⟩:∃ R,fL (.mk k t n l)=R:=⟨_,rfl⟩;rw [hR] at hmo ⊢;have HR:=Z_ hR;have Ux:=Z_ (DY l);have hE1:=(aB.refl (fun _=>False) w).alloc (.cells #[.int .i64 k,.string t,.int .i64 n,.slice a N cc] 24);have HK:=Z_ (aC.made w #[.int .i64 k,.string t,.int .i64 n,.slice a N cc] 24);have FD:=Z_ hE1;obtain⟨P,hP⟩:∃ P,w.heap.size=P:=⟨_,rfl⟩;rw [hP] at HK;clear hR Qk hN ih hE1;go_enter Tryz.func114,Tryz.ntmps114
 go_upto_region 1 with (fail)
 generalize w.alloc (.cells #[.int .i64 k,.string t,.int .i64 n,.slice a N cc] 24)=w1 at *;have hc:=HK.out.cell;go_wp2_with fail
 clear hc;go_loopw [3,9] (fun kk i wr=>∃ q m:Nat,q≤N∧kk=.int .i64 m∧i=.int .i64 q∧Hid (m+kV (l.drop q)=R)∧Hid (Ext w wr)∧Hid (aC wr P #[.int .i64 k,.string t,.int .i64 n,.slice a N cc] 24)) (fun _ i _=>N-(intOf i).toNat)
 case atStart=>exact⟨0,1,Nat.zero_le _,rfl,rfl,by have:=HR.out;simp only [fL] at this;rw [List.drop_zero];show 1+kV l=R;omega,FD,HK⟩
 clear FD HK
 case round=>
  obtain⟨q,m,hq,rfl,rfl,hr,HE,HK⟩:=hrel;by_cases hlt:q<N
  ·have kW:q<l.length:=by rw [HN.out];exact hlt
   have hqi:(q:Int)<(N:Int):=by omega
   have MP:decide ((q:Int)<(N:Int))=true:=by simpa using hqi
   obtain⟨b,o,rfl,hb,u,hu,hus,hcl⟩:=HI.out wr HE.out q kW;obtain⟨k1,t1,n1,a1,l1,c1,rfl⟩:=cH hu;have q0:wr.cell? ⟨b,o+q*4,none⟩=some (.int .i64 k1):=(ah H wr).2 _ _ ((hcl 0 (by decide)).trans rfl);have q1:wr.cell? ⟨b,o+q*4+1,none⟩=some (.string t1):=(ah H wr).2 _ _ ((hcl 1 (by decide)).trans rfl);have q2:wr.cell? ⟨b,o+q*4+2,none⟩=some (.int .i64 n1):=(ah H wr).2 _ _ ((hcl 2 (by decide)).trans rfl);have q3:wr.cell? ⟨b,o+q*4+3,none⟩=some (.slice a1 l1 c1):=(ah H wr).2 _ _ ((hcl 3 (by decide)).trans rfl);have hr2:=hr.out;rw [CY kW] at hr2;have Ig:=Z_ (HE.out.alloc (.cells #[.int .i64 k1,.string t1,.int .i64 n1,.slice a1 l1 c1] 24));have HK4:=Z_ (HK.out.alloc (.cells #[.int .i64 k1,.string t1,.int .i64 n1,.slice a1 l1 c1] 24))
   have HC:=Z_ (HIH.out l[q] (List.getElem_mem kW) _ (wr.alloc (.cells #[.int .i64 k1,.string t1,.int .i64 n1,.slice a1 l1 c1] 24)) H (aX (aH ((aB.refl (fun _=>False) wr).alloc _) fun i _ e=>e.elim) _ _ hu) (by omega));obtain⟨z,hz⟩:∃ z,fL l[q]=z:=⟨_,rfl⟩;rw [hz] at hr2 HC;have hpw:IntKind.i64.wrap ((m:Int)+(z:Int))=((m+z:Nat):Int):=by rw [wrap_small _ (by omega) (by omega)];omega
   have HR3:=Z_ hr2;clear hr hr2 hcl hu hz;go_upto_region 5 with (fail)
   have hc5:=(aC.made wr #[.int .i64 k1,.string t1,.int .i64 n1,.slice a1 l1 c1] 24).cell;generalize wr.alloc (.cells #[.int .i64 k1,.string t1,.int .i64 n1,.slice a1 l1 c1] 24)=wz at *;go_wp2_with fail
   refine HC.out.mono ?_
   rintro e w5 ⟨rfl,xG⟩;have Xz:=Z_ (Ig.out.ext xG);have HK5:=Z_ (HK4.out.ext xG);clear xG HC HE HK Ig HK4 q0 q1 q2 q3 hc5;go_wp2_with fail
   go_roundw
   case rel=>exact⟨q+1,m+z,by omega,by first|rfl|simp [hpw],by go_num,by have:=HR3.out;show m+z+kV (l.drop (q+1))=R;omega,Xz,HK5⟩
   case measure=>simp [intOf];omega
  ·obtain rfl:q=N:=by omega
   have MP:decide ((q:Int)<(q:Int))=false:=by simp
   have hT:=Z_ (show R=m by have:=hr.out;rw [List.drop_of_length_le (by rw [HN.out];exact Nat.le_refl _)] at this;simp only [kV] at this;omega);clear hr;go_wp2_with fail
   go_ret
   refine⟨?_,HE.out⟩;have e:=hT.out;subst e;first|rfl|simp
end VH
end Go.Proofs.YtpcihajmcejliacGreatDoor
namespace Go.Proofs.YtpcihajmcejliacGreatDoor
open Go.RowKit
def af6 (f:eY):Value:=.agg #[.string f.name,.bool f.dR,.int .i64 f.label,.int .i64 f.size]
def wB (x:eY) (v:Value) (_:World):Prop:=v=af6 x∧x.name.size≤10000
def pO (x:aI) (v:Value) (w:World):Prop:=∃ a c,v=.agg #[.string x.name,.bool x.dR,.slice a x.params.length c,.int .i64 x.writes,.bool x.gives,.int .i64 x.given]∧bC 1 dJ w a x.params∧x.params.length≤c∧c≤maxLen∧x.name.size≤10000
def yz (x:ByteArray) (v:Value) (_:World):Prop:=v=.string x∧x.size≤10000
def CE (x:Int) (v:Value) (_:World):Prop:=v=.int .i64 x
def jo (w:World) (b o:Nat) (x:ByteArray):Prop:=w.cell? ⟨b,o,none⟩=some (.string x)∧x.size≤10000
namespace cG
theorem CM:(Tryz.prog.info? 3).map (fun i=>(i.zero,i.size,i.bytes))=some (some (.int .i64 0),1,8):=by kernel_rfl
theorem CZ:(Tryz.prog.info? 9).map (fun i=>(i.zero,i.size,i.bytes))=some (some (.string ⟨#[]⟩),1,16):=by kernel_rfl
theorem wC:(Tryz.prog.info? 70).map (fun i=>(i.zero,i.size,i.bytes))=some (some (.agg #[.string ⟨#[]⟩,.bool false,.int .i64 0,.int .i64 0]),4,40):=by kernel_rfl
theorem yI:(Tryz.prog.info? 68).map (fun i=>(i.zero,i.size,i.bytes))=some (some (.agg #[.string ⟨#[]⟩,.bool false,.slice none 0 0,.int .i64 0,.bool false,.int .i64 0]),6,72):=by kernel_rfl
theorem uP {w w':World} (hk:bV w w') {b o:Nat} {x:Int} (h:dJ w b o x):dJ w' b o x:=hk.2 _ _ h
theorem uG {w w':World} (hk:bV w w') {b o:Nat} {x:eY} (h:gy w b o x):gy w' b o x:=⟨hk.2 _ _ h.1,hk.2 _ _ h.2.1,hk.2 _ _ h.2.2.1,hk.2 _ _ h.2.2.2.1,h.2.2.2.2⟩
theorem Ai {w w':World} (hk:bV w w') {b o:Nat} {x:aI} (h:dB w b o x):dB w' b o x:=by
 obtain⟨h0,h1,⟨a,c,h2,Nc,WX⟩,h3,h4,h5,h6⟩:=h;exact⟨hk.2 _ _ h0,hk.2 _ _ h1,⟨a,c,hk.2 _ _ h2,Nc.keeps hk fun _ _ _=>uP hk,WX⟩,hk.2 _ _ h3,hk.2 _ _ h4,hk.2 _ _ h5,h6⟩
theorem gK (x:Int) (u:Value) (w w':World) (_:bV w w') (h:CE x u w):CE x u w':=h
theorem iJ (x:ByteArray) (u:Value) (w w':World) (_:bV w w') (h:yz x u w):yz x u w':=h
theorem gB (x:eY) (u:Value) (w w':World) (_:bV w w') (h:wB x u w):wB x u w':=h
theorem gY (x:aI) (u:Value) (w w':World) (hk:bV w w') (h:pO x u w):pO x u w':=by
 obtain⟨a,c,e,h1,h2⟩:=h;exact⟨a,c,e,h1.keeps hk fun _ _ _=>uP hk,h2⟩
theorem xC (w:World) (b o:Nat) (x:Int) (u:Value) (h:CE x u w) (_:u.cells.size=1) (hc:∀ i,i<1→w.cell? ⟨b,o+i,none⟩=u.cells[i]?):dJ w b o x:=by
 cases h
 exact hc 0 (by decide)
theorem CW (w:World) (b o:Nat) (x:ByteArray) (u:Value) (h:yz x u w) (_:u.cells.size=1) (hc:∀ i,i<1→w.cell? ⟨b,o+i,none⟩=u.cells[i]?):jo w b o x:=by
 obtain⟨rfl,h1⟩:=h;exact⟨hc 0 (by decide),h1⟩
theorem small (n:Nat) (h:n≤10000):n≤maxLen:=by unfold maxLen;omega
theorem Ba (w:World) (b o:Nat) (x:eY) (u:Value) (h:wB x u w) (_:u.cells.size=4) (hc:∀ i,i<4→w.cell? ⟨b,o+i,none⟩=u.cells[i]?):gy w b o x:=by
 obtain⟨rfl,h1⟩:=h;exact⟨hc 0 (by decide),hc 1 (by decide),hc 2 (by decide),hc 3 (by decide),small _ h1⟩
theorem yG (w:World) (b o:Nat) (x:aI) (u:Value) (h:pO x u w) (_:u.cells.size=6) (hc:∀ i,i<6→w.cell? ⟨b,o+i,none⟩=u.cells[i]?):dB w b o x:=by
 obtain⟨a,c,rfl,h1,h2,h3,h4⟩:=h;exact⟨hc 0 (by decide),hc 1 (by decide),⟨a,c,hc 2 (by decide),h1,h2,h3⟩,hc 3 (by decide),hc 4 (by decide),hc 5 (by decide),small _ h4⟩
theorem uy {u u':World} {own:Option Nat} (hg:u.grownBy u' own):aB (fun i=>own=some i) u u':=
 ⟨hg.os,hg.tape,hg.output,hg.size,fun i hi hn=>hg.block i hi (by first|exact hn|exact fun e=>hn e.symm)⟩
theorem oM {α : Type} {k:Nat} {E:TypeId} {V:α→Value→World→Prop} {u w4:World} {B:Nat} {row:Value} {acc:List α} {x:α} {v:Value} {us:List Value} {o:Obj} {g c:Nat} (hV:∀ x u w w',bV w w'→V x u w→V x u w') (hu1:us.length=acc.length) (hu3:∀ j (h:j<acc.length) (h':j<us.length),V acc[j] us[j] (hide (bg B row) u)∧us[j].cells.size=k) (hx:V x v (hide (bg B row) u)) (hk:v.cells.size=k)
  (hown:w4.ownsRow B E k (.slice (some ⟨g,0,none⟩) (acc.length+1) c) (acc.length+1) (us.flatMap (fun u=>u.cells.toList)++v.cells.toList)) (hgrow:(u.alloc o).grownBy w4 row.ownBlock) (hat:row.ownBlock=some g∨g=u.heap.size+1) :
  Grow k E V B w4 (.slice (some ⟨g,0,none⟩) (acc.length+1) c) (acc ++ [x])∧aB (fun i=>row.ownBlock=some i) u w4:=by
 have hC:aB (fun i=>row.ownBlock=some i) u w4:=(((aB.refl (fun _=>False) u).alloc o).weak (fun _ _ h=>h.elim)).then (uy hgrow)
 refine⟨Grow.push hV hu1 hu3 hx hk hown hC.size (fun i hi hn=>hC.block i hi hn) (fun i hi=>?_),hC⟩
 have e:g=i:=by simpa [Value.ownBlock] using hi
 subst e;rcases hat with h|h
 ·exact .inl h
 ·exact .inr (by omega)
theorem dZ {α : Type} {k:Nat} {E:TypeId} {V:α→Value→World→Prop} {B:Nat} {w:World} {row:Value} {acc:List α} (h:Grow k E V B w row acc):∃ a c,row=.slice a acc.length c∧(acc.length≤c∧c≤maxLen):=by
 obtain⟨us,_,ho,_⟩:=h.ex;rcases ho.2 with ⟨rfl,h0⟩|⟨g,cap,cur,rfl,_,_,h1,h2,_⟩
 ·exact⟨_,_,by rw [h0],by rw [h0];exact⟨Nat.le_refl _,by decide⟩⟩
 ·exact⟨_,_,rfl,h1,h2⟩
theorem bn {α : Type} {k:Nat} {E:TypeId} {V:α→Value→World→Prop} {B:Nat} {w:World} {row:Value} {acc:List α} (h:Grow k E V B w row acc):∀ i,row.ownBlock=some i→B≤i∧i<w.heap.size:=by
 obtain⟨us,_,ho,_⟩:=h.ex;exact fun i e=>World.ownsRow.lt ho i e
end cG
end Go.Proofs.YtpcihajmcejliacGreatDoor
namespace Go.Proofs.YtpcihajmcejliacGreatDoor
open Go.RowKit
structure jk {α : Type} (X:Nat→Bool) (k:Nat) (E:TypeId) (V:α→Value→World→Prop) (B:Nat) (w:World) (v:Value) (l:List α):Prop where
 ex:∃ us:List Value,us.length=l.length∧w.ownsRow B E k v l.length (us.flatMap fun u=>u.cells.toList)∧∀ j (h:j<l.length) (h':j<us.length),V l[j] us[j] (hide (fun i=>bg B v i || X i) w)∧us[j].cells.size=k
namespace cG
theorem tX {α : Type} (X:Nat→Bool) (k:Nat) (E:TypeId) (V:α→Value→World→Prop) (B:Nat) (w:World):jk X k E V B w (.slice none 0 0) []:=
 ⟨[],rfl,World.ownsRow_nil _ _ _ _,fun j h=>by simp at h⟩
theorem mO {α : Type} {X:Nat→Bool} {k:Nat} {E:TypeId} {V:α→Value→World→Prop} {B:Nat} {w:World} {row:Value} {acc:List α} (h:jk X k E V B w row acc):∃ a c,row=.slice a acc.length c∧(acc.length≤c∧c≤maxLen):=by
 obtain⟨us,_,ho,_⟩:=h.ex;rcases ho.2 with ⟨rfl,h0⟩|⟨g,cap,cur,rfl,_,_,h1,h2,_⟩
 ·exact⟨_,_,by rw [h0],by rw [h0];exact⟨Nat.le_refl _,by decide⟩⟩
 ·exact⟨_,_,rfl,h1,h2⟩
theorem bH {α : Type} {X:Nat→Bool} {k:Nat} {E:TypeId} {V:α→Value→World→Prop} {B:Nat} {w:World} {row:Value} {acc:List α} (h:jk X k E V B w row acc):∀ i,row.ownBlock=some i→B≤i∧i<w.heap.size:=by
 obtain⟨us,_,ho,_⟩:=h.ex;exact fun i e=>World.ownsRow.lt ho i e
theorem eH {α : Type} {X X':Nat→Bool} {k:Nat} {E:TypeId} {V:α→Value→World→Prop} {B:Nat} {w w':World} {row:Value} {acc:List α} (h:jk X k E V B w row acc) (hV:∀ x u w w',bV w w'→V x u w→V x u w') {S:Nat→Prop} (hC:aB S w w')
  (hS:∀ i,S i→i<B∨X i=true) (hO:∀ i,row.ownBlock=some i→¬ S i) (hX:∀ i,X' i=true→X i=true∨w.heap.size≤i):jk X' k E V B w' row acc:=by
 obtain⟨us,h1,⟨h2,h4⟩,h3⟩:=h.ex;refine⟨us,h1,⟨h2,?_⟩,fun j hj hj'=>⟨hV _ _ _ _ (aT hC.size fun i hi hm=>?_) (h3 j hj hj').1,(h3 j hj hj').2⟩⟩
 ·rcases h4 with h4|⟨g,cap,cur,hv,hg,hh,r⟩
  ·exact .inl h4
  ·refine .inr ⟨g,cap,cur,hv,hg,?_,r⟩
   rw [hC.block g (Array.getElem?_eq_some_iff.1 hh).1 (hO g (by rw [hv];rfl))];exact hh
 ·simp only [Bool.or_eq_false_iff,bg,decide_eq_false_iff_not] at hm ⊢
  have h5:X' i=false:=by
   cases hx:X' i with
   | false=>rfl
   | true=>
    rcases hX i hx with h|h
    ·rw [h] at hm;cases hm.2
    ·omega
  refine⟨⟨⟨hm.1.1,hm.1.2⟩,h5⟩,hC.block i hi fun hs=>?_⟩
  rcases hS i hs with h|h
  ·exact hm.1.1 h
  ·rw [h] at hm;cases hm.2
theorem tZ {α : Type} {X:Nat→Bool} {k:Nat} {E:TypeId} {V:α→Value→World→Prop} {In:World→Nat→Nat→α→Prop} {B:Nat} {w:World} {v:Value} {l:List α} (h:jk X k E V B w v l)
  (hV:∀ x u w w',bV w w'→V x u w→V x u w')
  (hI:∀ (w:World) b o x u,V x u w→u.cells.size=k→(∀ i,i<k→w.cell? ⟨b,o+i,none⟩=u.cells[i]?)→In w b o x):kJ k In l v (hide (below B) w):=by
 obtain⟨us,h1,h2,h3⟩:=h.ex;refine Grow.row (E:=E) ⟨us,h1,h2,fun j hj hj'=>⟨hV _ _ _ _ (aT (Nat.le_refl _) fun i hi hm=>?_) (h3 j hj hj').1,(h3 j hj hj').2⟩⟩ hV hI
 simp only [Bool.or_eq_false_iff] at hm;exact⟨hm.1,rfl⟩
theorem CN {X:Nat→Bool} {A B:Nat} {row:Value} {w:World} (hB:B≤A) (hr:∀ i,row.ownBlock=some i→i<A) (hX:∀ i,X i=true→i<A):bV (hide (below A) w) (hide (fun i=>bg B row i || X i) w):=aT (Nat.le_refl _) fun i hi hm=>by
 simp only [below,decide_eq_false_iff_not] at hm;refine⟨?_,rfl⟩
 simp only [Bool.or_eq_false_iff,bg,decide_eq_false_iff_not];refine⟨⟨by omega,fun e=>hm (hr i e)⟩,?_⟩
 cases hx:X i with
 | false=>rfl
 | true=>exact absurd (hX i hx) hm
def ownB (v:Value):Nat→Bool:=fun i=>decide (v.ownBlock=some i)
theorem su {w w':World} (hk:bV w w') {x:aQ} {v:Value} (h:fE w x v):fE w' x v:=by
 obtain⟨a,m,c,d,rfl,h1,h2,h3⟩:=h;exact⟨a,m,c,d,rfl,h1.keeps hk fun _ _ _=>uG hk,h2.keeps hk fun _ _ _=>Ai hk,h3⟩
end cG
end Go.Proofs.YtpcihajmcejliacGreatDoor
namespace Go.Proofs.YtpcihajmcejliacGreatDoor
open Go.RowKit Go.WideMaps Go.Maps
def dD (L:List (ByteArray×Int)) (s:ByteArray):Option Int:=match L with
 | []=>none
 | (x,v)::r=>if x=s then some v else dD r s
def eX (L:List (ByteArray×Int)):List (List UInt8):=L.map fun p=>p.1.data.toList
namespace jf
theorem keyed:Keyed Tryz.prog 9:=string_keyed Tryz.underlying9
theorem Qp (w:World):(zeroValue 3).run Tryz.prog w=.ok (.int .i64 0) w:=by kernel_rfl
theorem pV (L:List (ByteArray×Int)) (x s:ByteArray) (v:Int):dD (L ++ [(x,v)]) s=match dD L s with
  | some c=>some c
  | none=>if x=s then some v else none:=by
 induction L with
 | nil=>simp [dD]
 | cons p r ih=>
  obtain⟨y,c⟩:=p;simp only [List.cons_append,dD];by_cases hy:y=s
  ·simp [hy]
  ·rw [if_neg hy,if_neg hy,ih]
theorem xB (L:List (ByteArray×Int)) (s:ByteArray):(dD L s).isSome=(eX L).contains s.data.toList:=by
 induction L with
 | nil=>rfl
 | cons p r ih=>
  obtain⟨y,c⟩:=p;simp only [dD,eX,List.map_cons,List.contains_cons];by_cases hy:y=s
  ·simp [hy]
  ·rw [if_neg hy,ih]
   have:¬ s.data.toList=y.data.toList:=fun e=>hy (ByteArray.ext (Array.toList_inj.1 e.symm))
   have h2:(s.data.toList == y.data.toList)=false:=beq_eq_false_iff_ne.2 this;rw [h2,Bool.false_or];rfl
def iQ (w:World) (b:Nat) (L:List (ByteArray×Int)):Prop:=
 ∃ (D:DataW Unit),w.ownsMap Tryz.prog 9 (plainElem Tryz.prog 3) b L.length D∧Maps.size D=L.length∧
  ∀ s:ByteArray,has D (.string s.data.toList)=(dD L s).isSome∧∀ c:Int,D.atKey (.string s.data.toList) (.lit (.int .i64 0))=.lit (.int .i64 c)→c=(dD L s).getD 0
theorem iQ.lt {w:World} {b:Nat} {L:List (ByteArray×Int)} (h:iQ w b L):b<w.heap.size:=by
 obtain⟨D,h1,_⟩:=h;exact h1.lt
theorem iQ.aK {w w':World} {b:Nat} {L:List (ByteArray×Int)} (h:iQ w b L) {S:Nat→Prop} (hC:aB S w w') (hn:¬ S b):iQ w' b L:=by
 obtain⟨D,⟨es,clock,hb,F,hs,hD⟩,h2⟩:=h;exact⟨D,⟨es,clock,(hC.block b (Array.getElem?_eq_some_iff.1 hb).1 hn).trans hb,F,hs,hD⟩,h2⟩
theorem iQ.drewN {w:World} {b:Nat} {L:List (ByteArray×Int)} (h:iQ w b L) (n:Nat):iQ (w.drewN n) b L:=h
theorem iQ.made (w:World):iQ (w.alloc (.map #[] 0)) w.heap.size []:=by
 refine⟨.map [],World.ownsMap_made _ _ _ _,rfl,fun s=>⟨rfl,fun c h=>?_⟩⟩
 rw [WideAt.atKey_none _ (by simp)] at h;simp at h
 simp [dD];exact h.symm
theorem iQ.put {w:World} {b:Nat} {L:List (ByteArray×Int)} (h:iQ w b L) {x:ByteArray} {v:Int} (hx:dD L x=none) (hs:x.size≤maxLen) (hl:L.length<maxLen) (hv0:0≤v) (hv:v<9223372036854775808) :
  ∃ w',(Instr.mapUpdate 126 (.map (some b)) (.string x) (.int .i64 v)).run Tryz.prog w=.ok () w'∧iQ w' b (L ++ [(x,v)])∧w.grownBy w' (some b):=by
 obtain⟨D,hown,hsz,h2⟩:=h;have hkey:=keyOf_string_mk (P:=Tryz.prog) (k:=9) Tryz.underlying9 hs
 have hwf:(Lit.int .i64 v).wf=true:=by
  simp only [Lit.wf,Bool.and_eq_true,decide_eq_true_eq,show IntKind.i64.min=-9223372036854775808 from rfl,show IntKind.i64.max=9223372036854775807 from rfl];omega
 obtain⟨w',hrun,hM,hg⟩:=hown.update (t:=126) keyed Tryz.underlying126 hl hkey (plainElem_int (P:=Tryz.prog) (q:=.i64) Tryz.underlying3 (a:=v) hwf);have hk:WideAt.IsKeyLit (.string x.data.toList):=by trivial
 refine⟨w',hrun,⟨_,by rw [List.length_append];exact hM,?_,fun s=>?_⟩,hg⟩
 ·rw [size_put (hown.tidy keyed),(h2 x).1,hx,hsz]
  simp
 rw [pV];by_cases e:x=s
 ·subst e
  rw [has_put_same hown.isMap hk,hx];refine⟨by simp,fun c hc=>?_⟩
  rw [atKey_put_same hown.isMap hk] at hc;simp at hc ⊢
  exact hc.symm
 ·have hne:(Lit.string s.data.toList)≠.string x.data.toList:=by
   intro h;exact e (ByteArray.ext (Array.ext' (by simpa using h.symm)))
  rw [has_put_other hne,(h2 s).1];refine⟨by cases dD L s<;>simp [e],fun c hc=>?_⟩
  rw [atKey_put_other hne] at hc;rw [(h2 s).2 c hc];cases dD L s<;>simp [e]
theorem iQ.look {w:World} {b:Nat} {L:List (ByteArray×Int)} (h:iQ w b L) {s:ByteArray} (hs:s.size≤maxLen) :
  (Instr.lookup 126 (.map (some b)) (.string s) true).run Tryz.prog w=.ok (.tuple #[.int .i64 ((dD L s).getD 0),.bool (dD L s).isSome]) w:=by
 obtain⟨D,hown,-,h2⟩:=h;have hkey:=keyOf_string_mk (P:=Tryz.prog) (k:=9) Tryz.underlying9 hs;obtain⟨v,ps,hrun2,hv⟩:=hown.look_ok (t:=126) keyed Tryz.underlying126 (Qp w) (plainElem_int (P:=Tryz.prog) (q:=.i64) Tryz.underlying3 (a:=0) (by decide)) hkey;obtain⟨c2,rfl,hc2,-⟩:=plainElem_int_inv Tryz.underlying3 hv;simp only [Prod.mk.injEq] at hc2;rw [(h2 s).2 c2 hc2.1,(h2 s).1] at hrun2;exact hrun2
theorem iQ.len {w:World} {b:Nat} {L:List (ByteArray×Int)} (h:iQ w b L) (ty:TypeId):(Builtin.len_ #[126] ty #[.map (some b)]).run Tryz.prog w=.ok (.int .i64 (L.length:Nat)) w:=by
 obtain⟨D,hown,hsz,-⟩:=h;rw [←hsz];exact hown.len (t:=126) Tryz.underlying126 ty
def xy (c p:Int):List PanicEntry:=[{ v:=.iface 225 (.agg #[.int .i64 c,.int .i64 p]),recovered:=false }]
set_option maxRecDepth 100000 in
theorem bM (c p:Int) (w:World):Calls Tryz.prog 112 #[.bool true,.int .i64 c,.int .i64 p] w fun e w'=>e=.returned (.tuple #[])∧w'=w:=by
 go_enter Tryz.func112,Tryz.ntmps112
 go_wp2_with fail
 go_end0
 exact⟨rfl,rfl⟩
set_option maxRecDepth 100000 in
theorem bY (c p:Int) (w:World):Calls Tryz.prog 112 #[.bool false,.int .i64 c,.int .i64 p] w fun e w'=>e=.panicked (xy c p)∧w'=w:=by
 go_enter Tryz.func112,Tryz.ntmps112
 go_wp2_with fail
 exact⟨rfl,rfl,rfl⟩
end jf
end Go.Proofs.YtpcihajmcejliacGreatDoor
