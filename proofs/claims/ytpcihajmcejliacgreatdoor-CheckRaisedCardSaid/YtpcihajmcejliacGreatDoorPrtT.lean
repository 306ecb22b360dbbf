/- Nodes of any texts as values; the walk of weigh over them. What the printer comes to, in plain Lean: whether it goes on, and the words so far. The printer's state, and the walks of its least functions. The walks of the printer's whole, label and pub. -/
import Derived.Lib.ItoaNum
import Derived.Lib.CutLaws
import Derived.Lib.IndexBytes
import Derived.Laws.Strings3
import Derived.Defers
import Derived.Test.YtpcihajmcejliacGreatDoorSyn3
import Derived.Test.YtpcihajmcejliacGreatDoorOfD
import Derived.Test.YtpcihajmcejliacGreatDoorName
namespace Go.Proofs.YtpcihajmcejliacGreatDoor
open Go.RowKit
def nO (w:World):Nd→Value→Prop
 | .mk k t m l,v=>∃ a c,v=.agg #[.int .i64 k,.string t,.int .i64 m,.slice a l.length c]∧l.length≤c∧c≤maxLen∧(t.size≤maxLen∧-9223372036854775808≤m∧m≤9223372036854775807)∧
   ∀ (j:Nat) (h:j<l.length),∃ b o,a=some ⟨b,o,none⟩∧b<w.heap.size∧∃ u,nO w l[j] u∧u.cells.size=4∧∀ i,i<4→w.cell? ⟨b,o+j*4+i,none⟩=u.cells[i]?
 termination_by x=>SizeOf.sizeOf x
 decreasing_by exact Nd.oD k t m l j h
def Vq (w:World) (b o:Nat) (x:Nd):Prop:=∃ u,nO w x u∧u.cells.size=4∧∀ i,i<4→w.cell? ⟨b,o+i,none⟩=u.cells[i]?
theorem lJ (w:World) (k:Int) (t:ByteArray) (m:Int) (l:List Nd) (v:Value):nO w (.mk k t m l) v↔∃ a c,v=.agg #[.int .i64 k,.string t,.int .i64 m,.slice a l.length c]∧l.length≤c∧c≤maxLen∧(t.size≤maxLen∧-9223372036854775808≤m∧m≤9223372036854775807)∧fN 4 Vq w a l:=by
 rw [nO];exact Iff.rfl
theorem uw {w w':World} (hk:gh w w'):∀ x v,nO w x v→nO w' x v:=by
 refine gz fun k t m l ih v h=>?_
 rw [lJ] at h ⊢;obtain⟨a,c,e,h1,h2,h3,h4⟩:=h;refine⟨a,c,e,h1,h2,h3,fun j hj=>?_⟩
 obtain⟨b,o,ea,hb,u,hu,hs,hc⟩:=h4 j hj;refine⟨b,o,ea,Nat.lt_of_lt_of_le hb hk.1,u,ih _ (List.getElem_mem hj) _ hu,hs,fun i hi=>?_⟩
 have h5:u.cells[i]? = some (u.cells[i]'(by omega)):=Array.getElem?_eq_getElem (by omega);rw [h5];exact hk.2 _ _ ((hc i hi).trans h5)
theorem KL {w w':World} (hk:gh w w') (b o:Nat) (x:Nd) (h:Vq w b o x):Vq w' b o x:=by
 obtain⟨u,hu,hs,hc⟩:=h;refine⟨u,uw hk _ _ hu,hs,fun i hi=>?_⟩
 have h5:u.cells[i]? = some (u.cells[i]'(by omega)):=Array.getElem?_eq_getElem (by omega);rw [h5];exact hk.2 _ _ ((hc i hi).trans h5)
namespace bH
theorem yc {w:World} {x:Nd} {v:Value} (h:nO w x v):∃ k t m a n c,v=.agg #[.int .i64 k,.string t,.int .i64 m,.slice a n c]:=by
 cases x with
 | mk k t m l=>
  rw [lJ] at h;obtain⟨a,c,rfl,-⟩:=h;exact⟨_,_,_,_,_,_,rfl⟩
set_option maxRecDepth 100000 in
set_option maxHeartbeats 4000000 in
theorem KN (g:Nat):∀ (x:Nd) (v:Value) (w:World) (M m:Nat) (d:Int) (H:Nat→Bool),nO (hide H w) x v→H M=true→aJ w M #[.int .i64 (m:Nat)] 3→m≤500→d=17-(g:Int)→g≤17→
  Calls Tryz.prog 49 #[v,.int .i64 d,.pointer (some ⟨M,0,none⟩)] w fun e w'=>e=.returned (.bool (d_ g x m).1)∧aB (fun i=>i=M) w w'∧aJ w' M #[.int .i64 ((d_ g x m).2:Nat)] 3:=by
 induction g with
 | zero=>
  intro x v w M m d H hx hH hM hm hd hg;obtain⟨k,t,n,a,c,cc,rfl⟩:=yc hx;have hM1:=hM.alloc (.cells #[.int .i64 k,.string t,.int .i64 n,.slice a c cc] 24);have hc:=hM1.cell 0;have hf:=hM1.frozen 0;have hl:=hM1.lt;simp at hc
  have hw1:IntKind.i64.wrap ((m:Int)+1)=((m+1:Nat):Int):=by rw [wrap_small _ (by omega) (by omega)];rfl
  have hd2:d=17:=by omega
  subst hd2;have HM:=Z_ hM1;have HC:=Z_ ((aB.refl (fun i=>i=M) w).alloc (.cells #[.int .i64 k,.string t,.int .i64 n,.slice a c cc] 24));simp only [d_];clear hM hM1 hx hd hg;go_enter Tryz.func49,Tryz.ntmps49
  go_wp2_with fail
  go_ret
  exact⟨rfl,aA HC.out 0 _,HM.out.set 0 _⟩
 | succ g ih=>
  intro x v w M m d H hx hH hM hm hd hg;cases x with
  | mk k t n l=>
   rw [lJ] at hx;obtain⟨a,cc,rfl,hx1,hx2,hx3,LY⟩:=hx;obtain⟨N,hN⟩:∃ N,l.length=N:=⟨_,rfl⟩;have Uc:N≤9223372036854775807:=by unfold maxLen at hx2;omega
   have HN:=Z_ hN;rw [hN];have hM1:=hM.alloc (.cells #[.int .i64 k,.string t,.int .i64 n,.slice a N cc] 24);have hc:=hM1.cell 0;have hf:=hM1.frozen 0;have hlM:=hM1.lt;simp at hc
   obtain⟨m1,Tu⟩:∃ q,m+1=q:=⟨_,rfl⟩;have hw1:IntKind.i64.wrap ((m:Int)+1)=(m1:Int):=by rw [wrap_small _ (by omega) (by omega)];omega
   have hdd:¬ (16<d):=by omega
   have hdw:IntKind.i64.wrap (d+1)=17-(g:Int):=by rw [wrap_small _ (by omega) (by omega)];omega
   have ax7:wrap64 (d+1)=17-(g:Int):=by unfold wrap64;omega
   have hMw:=hM.lt;have hcm:(w.setCell ⟨M,0,none⟩ (.int .i64 (m1:Nat))).cell? ⟨M,0,none⟩=some (.int .i64 (m1:Nat)):=(hM.set 0 (.int .i64 (m1:Nat))).cell 0;have ax8:decide (16<d)=false:=by simpa using hdd
   clear hd;obtain⟨K,hK⟩:∃ K,w.heap.size=K:=⟨_,rfl⟩;rw [hK] at hMw;obtain⟨R,hR⟩:∃ R,d_ (g+1) (.mk k t n l) m=R:=⟨_,rfl⟩;rw [hR];simp only [d_] at hR;rw [Tu] at hR;have HR:=Z_ hR;have hM2:=(hM.set 0 (.int .i64 (m1:Nat))).alloc (.cells #[.int .i64 k,.string t,.int .i64 n,.slice a N cc] 24);have hK2:=aJ.made (w.setCell ⟨M,0,none⟩ (.int .i64 (m1:Nat))) #[.int .i64 k,.string t,.int .i64 n,.slice a N cc] 24;rw [World.size_setCell,hK] at hK2;have hX:=(aA (aB.refl (fun i=>i=M) w) 0 (.int .i64 (m1:Nat))).alloc (.cells #[.int .i64 k,.string t,.int .i64 n,.slice a N cc] 24);have hK3:=hK2.cell;have Dk:=Z_ hM2;have HX:=Z_ hX;have HI:=Z_ (fun (u:World) (hC:aB (fun i=>i=M) w u)=>LY.keeps (aN hC fun i _ e=>by rw [e];exact hH) fun b o y=>KL (aN hC fun i _ e=>by rw [e];exact hH) b o y)
   clear hM hM1 hR hM2 hX LY hK2 hN;by_cases hb:500<m1
   ·have HR2:=Z_ (show R=(false,m1) by have:=HR.out;rw [if_pos hb] at this;exact this.symm)
    have hb2:(500:Int)<(m1:Int):=by omega
    clear HR;go_enter Tryz.func49,Tryz.ntmps49
    go_wp2_with fail
    go_ret
    rw [HR2.out];exact⟨rfl,HX.out,Dk.out⟩
   ·have HR2:=Z_ (show jk g l m1=R by have:=HR.out;rw [if_neg hb] at this;exact this)
    have hb2:¬ ((500:Int)<(m1:Int)):=by omega
    have hm1:m1≤500:=by omega
    clear HR hb Tu;go_enter Tryz.func49,Tryz.ntmps49
    go_wp2_with fail
    have HI2:=Z_ (HI.out _ HX.out);clear hc hf hlM hw1 hb2 hK3;have Xo:=HX.out;have ZV:=Dk.out;generalize (w.setCell ⟨M,0,none⟩ (.int .i64 (m1:Nat))).alloc (.cells #[.int .i64 k,.string t,.int .i64 n,.slice a N cc] 24)=w1 at *;go_loopw [25] (fun i wr=>∃ q mm:Nat,q≤N∧i=.int .i64 q∧mm≤500∧Hid (jk g (l.drop q) mm=R)∧aB (fun i=>i=M) w wr∧aJ wr M #[.int .i64 (mm:Nat)] 3) (fun i _=>N-(intOf i).toNat)
    case atStart=>exact⟨0,m1,Nat.zero_le _,rfl,hm1,HR2,Xo,ZV⟩
    case round=>
     obtain⟨q,mm,hq,rfl,hmm,hr,hC,hB⟩:=hrel;by_cases hlt:q<N
     ·have kN:q<l.length:=by rw [HN.out];exact hlt
      have hqi:(q:Int)<(N:Int):=by omega
      obtain⟨b,o,rfl,hb,u,hu,hus,hcl⟩:=HI.out wr hC q kN;obtain⟨k1,t1,n1,a1,l1,c1,rfl⟩:=yc hu;have q0:wr.cell? ⟨b,o+q*4,none⟩=some (.int .i64 k1):=(aC H wr).2 _ _ ((hcl 0 (by decide)).trans rfl);have q1:wr.cell? ⟨b,o+q*4+1,none⟩=some (.string t1):=(aC H wr).2 _ _ ((hcl 1 (by decide)).trans rfl);have q2:wr.cell? ⟨b,o+q*4+2,none⟩=some (.int .i64 n1):=(aC H wr).2 _ _ ((hcl 2 (by decide)).trans rfl);have q3:wr.cell? ⟨b,o+q*4+3,none⟩=some (.slice a1 l1 c1):=(aC H wr).2 _ _ ((hcl 3 (by decide)).trans rfl);have hE:=(aB.refl (fun _=>False) wr).alloc (.cells #[.int .i64 k1,.string t1,.int .i64 n1,.slice a1 l1 c1] 24);have HP:=Z_ ((aJ.made wr #[.int .i64 k1,.string t1,.int .i64 n1,.slice a1 l1 c1] 24));have hPc:=HP.out.cell;have HIH:=Z_ (ih l[q] _ (wr.alloc (.cells #[.int .i64 k1,.string t1,.int .i64 n1,.slice a1 l1 c1] 24)) M mm (17-(g:Int)) H (uw (aN hE fun _ _ h=>h.elim) _ _ hu) hH (hB.ext hE) hmm rfl (by omega))
      have hr2:=hr.out;rw [zM kN] at hr2;have hle:=IU g l[q] mm;generalize d_ g l[q] mm=Q at *;obtain⟨qb,qm⟩:=Q;simp only at hr2 hle HIH;have HR3:=Z_ hr2;have iY:=Z_ hle;have yI:=Z_ (hC.ext hE);clear hr hr2 hcl hu hE hC hB hle;go_wp2_with fail
      refine HIH.out.mono ?_
      rintro e w5 ⟨rfl,hC5,YS⟩;have YT:=Z_ (yI.out.then hC5);have ER:=Z_ YS;clear hC5 YS;cases qb with
      | true=>
       have PY:=Z_ (show jk g (l.drop (q+1)) qm=R by have:=HR3.out;simpa using this);have hqm:=iY.out.2 rfl;clear HR3 iY;go_wp2_with fail
       go_roundw
       case rel=>exact⟨q+1,qm,by omega,by go_num,hqm,PY,YT.out,ER.out⟩
       case measure=>simp [intOf];omega
      | false=>
       have PY:=Z_ (show R=(false,qm) by have:=HR3.out;simpa using this.symm);clear HR3 iY;go_wp2_with fail
       go_ret
       rw [PY.out];exact⟨rfl,YT.out,ER.out⟩
     ·obtain rfl:q=N:=by omega
      have hT:=Z_ (show R=(true,mm) by have:=hr.out;rw [List.drop_of_length_le (by rw [HN.out];exact Nat.le_refl _)] at this;simp only [jk] at this;exact this.symm);clear hr;go_wp2_with fail
      go_ret
      rw [hT.out];exact⟨rfl,hC,hB⟩
end bH
end Go.Proofs.YtpcihajmcejliacGreatDoor
namespace Go.Proofs.YtpcihajmcejliacGreatDoor
open Go.RowKit
abbrev PO:=Bool×List ByteArray
def PO.then (a b:PO):PO:=if a.1=true then (b.1,a.2++b.2) else a
def ah (l:List ByteArray):PO:=(true,l)
def bu (b:Bool):PO:=(b,[])
def oq (b:Bool) (p:PO):PO:=if b=true then (p.1,dh::p.2 ++ [aV]) else p
def dW (m:Int):ByteArray×Int:=
 if m=9 then (⟨#[61,61]⟩,0) else if m=8 then (⟨#[60]⟩,0) else if m=1 then (⟨#[43]⟩,1) else if m=2 then (⟨#[45]⟩,1) else if m=7 then (⟨#[124]⟩,1)
 else if m=3 then (⟨#[42]⟩,2) else if m=4 then (⟨#[47]⟩,2) else if m=5 then (⟨#[37]⟩,2) else if m=6 then (⟨#[38]⟩,2) else (aF,-1)
def jh (b:Bool):ByteArray:=if b=true then pF else rI
def nH (m:Int) (n:Nat) (least most num:Int):Bool:=decide (0≤m)&&decide (m≤num)&&decide (least≤(n:Int))&&(decide (most<0) || decide ((n:Int)≤most))
def cZ (t:ByteArray) (m:Int) (n:Nat) (least most num:Int):Bool:=decide (t=aF)&&nH m n least most num
def eH (t:ByteArray) (m:Int) (n:Nat) (least most num:Int):Bool:=nameB t.data.toList&&nH m n least most num
def lQ (t:ByteArray):ByteArray×ByteArray×Bool:=(⟨(Lib.cut t.data.toList [46]).1.toArray⟩,⟨(Lib.cut t.data.toList [46]).2.1.toArray⟩,(Lib.cut t.data.toList [46]).2.2)
def qB (t:ByteArray) (m:Int) (n:Nat) (least most:Int):Bool:=nameB (lQ t).1.data.toList&&(!(lQ t).2.2 || nameB (lQ t).2.1.data.toList)&&nH m n least most 0
def jA (t:ByteArray):List ByteArray:=(lQ t).1::if (lQ t).2.2=true then [uO,(lQ t).2.1] else []
def gG (t:ByteArray) (m:Int) (n:Nat) (least most:Int):PO:=(bu (qB t m n least most)).then (ah (jA t))
def xm (m:Int):ByteArray:=⟨(Lib.itoa m).toArray⟩
def oJ:List PO→Bool→PO
 | [],_=>ah []
 | a::r,f=>(ah (if f=true then [] else [fL])).then (a.then (oJ r false))
def mG:List PO→PO
 | []=>ah []
 | a::r=>a.then (mG r)
def bF (ks:List PO) (j:Nat):PO:=ks.getD j (ah [])
def kO (k m:Int) (j:Nat):Int:=
 if k=19 then (if j=0 then (if (dW m).2=0 then 1 else (dW m).2) else (dW m).2+1)
 else if k=20∨k=21 then 3 else 0
def pV (k:Int) (t:ByteArray) (m:Int) (n:Nat) (least:Int) (ks:List PO):PO:=
 if k=19 then (bu (cZ t 0 n 2 2 0)).then ((bu (decide (0≤(dW m).2))).then
  (oq (decide ((dW m).2<least)) ((bF ks 0).then ((ah [(dW m).1]).then (bF ks 1)))))
 else if k=20∨k=21 then (bu (cZ t m n 1 1 0)).then ((ah [if k=20 then pO else Ac]).then (bF ks 0))
 else if k=15 then (bu (decide (t=aF)&&decide (0≤m)&&decide (n=0))).then (ah [xm m])
 else if k=17 then (gG t m n 1 1).then ((ah [ov]).then ((bF ks 0).then (ah [lN])))
 else if k=18 then (gG t m n 0 (-1)).then ((ah [dh]).then ((oJ ks true).then (ah [aV])))
 else (bu (decide (k=16))).then (gG t m n 0 0)
mutual
def fJ:Int→Nd→PO
 | least,.mk k t m l=>pV k t m l.length least (xZ k m l 0)
def xZ (k m:Int):List Nd→Nat→List PO
 | [],_=>[]
 | x::r,j=>fJ (kO k m j) x::xZ k m r (j+1)
end
def nV (k:Int) (t:ByteArray) (m:Int) (kd:Int) (ks:List (PO×PO)):PO:=
 if k=10∨k=11 then (bu (cZ t m ks.length 2 (if k=10 then 3 else 2) 0)).then ((ah [if k=10 then T_ else tY]).then
  ((ah [dh]).then ((bF (ks.map Prod.fst) 0).then ((ah [aV]).then ((bF (ks.map Prod.snd) 1).then
   (if 2<ks.length then (ah [nI]).then (bF (ks.map Prod.snd) 2) else ah []))))))
 else if k=7 then (bu (eH t m ks.length 1 1 1)).then ((ah [jh (decide (m=1))]).then ((ah [t,Ai]).then ((bF (ks.map Prod.fst) 0).then (ah [aW]))))
 else if k=8 then (bu (cZ t m ks.length 2 2 0)).then ((bu (decide (kd=16) || decide (kd=17))).then ((bF (ks.map Prod.fst) 0).then ((ah [Ai]).then ((bF (ks.map Prod.fst) 1).then (ah [aW])))))
 else if k=9 then (bu (cZ t m ks.length 1 1 0)).then ((bu (decide (kd=18))).then ((ah [TZ]).then ((bF (ks.map Prod.fst) 0).then (ah [aW]))))
 else if k=12∨k=13 then (bu (cZ t m ks.length 1 1 1)).then ((bu (decide (k=12) || (decide (kd=16) || decide (kd=17)))).then ((ah [if k=13 then Uy else EH]).then
  ((ah [jh (decide (m=1))]).then ((bF (ks.map Prod.fst) 0).then (ah [aW])))))
 else (bu (decide (k=14))).then ((bu (cZ t m ks.length 1 1 0)).then ((ah [oN]).then ((bF (ks.map Prod.fst) 0).then (ah [aW]))))
def zS (k:Int) (t:ByteArray) (m:Int) (ks:List PO):PO:=(bu (decide (k=6))).then ((bu (cZ t m ks.length 0 (-1) 0)).then ((ah [r_]).then ((mG ks).then (ah [qg]))))
def Ux (l:List Nd):Int:=(l.headD kE).kd
mutual
def rZ:Nd→PO
 | .mk k t m l=>nV k t m (Ux l) (vK l)
def vK:List Nd→List (PO×PO)
 | []=>[]
 | x::r=>(fJ 0 x,qH x)::vK r
def qH:Nd→PO
 | .mk k t m l=>zS k t m (Aj l)
def Aj:List Nd→List PO
 | []=>[]
 | x::r=>rZ x::Aj r
end
def rK (m:Int):List ByteArray:=if 2≤m % 4 then [rL] else []
def rJ:Nd→PO
 | .mk _ t m l=>(bu (eH t m l.length 0 1 3)).then ((ah (rK m)).then ((ah [jh (decide (m % 2=1))]).then ((ah [t]).then
   ((mG (l.map fun x=>(bu (decide (x.kd=15))).then ((ah [ov]).then ((fJ 0 x).then (ah [lN]))))).then (ah [aW])))))
def zT (i:Nat) (x:Nd):PO:=(bu (decide (x.kd=5))).then ((ah (if 0<i then [fL] else [])).then ((bu (eH x.tx x.nm x.kids.length 0 0 1)).then ((ah [jh (decide (x.nm=1))]).then (ah [x.tx]))))
def kS:List Nd→Nat→PO
 | [],_=>ah []
 | x::r,i=>(zT i x).then (kS r (i+1))
def mY:Nd→PO
 | .mk _ t m l=>(bu (eH t m l.length 1 (-1) 11)).then ((ah (rK m)).then ((ah [qh,t,dh]).then ((kS l.dropLast 0).then ((ah [aV]).then ((ah [jh (decide (m % 2=1))]).then
   ((if 4≤m then (ah [iJ]).then (ah [jh (decide (8≤m))]) else ah []).then (qH (l.getLastD kE))))))))
def xI (decls:Bool) (x:Nd):PO:=
 if x.kd=2 then (bu (!decls)).then ((bu (eH x.tx x.nm x.kids.length 0 0 0)).then (ah [kz,x.tx,aW]))
 else if x.kd=3 then rJ x
 else (bu (decide (x.kd=4))).then (mY x)
def iP:List Nd→Bool→PO
 | [],_=>ah []
 | x::r,d=>(xI d x).then (iP r (d || !decide (x.kd=2)))
def nX:Nd→PO
 | .mk k t m l=>(bu (decide (k=1))).then ((bu (eH t m l.length 0 (-1) 0)).then ((ah [nK,t,aW]).then (iP l false)))
def kX (x:Nd):ByteArray×Int:=
 if (d_ 16 x 0).1=false then (aF,1)
 else if (nX x).1=false then (aF,2)
 else if 3000<(Lib.join ((nX x).2.map fun s=>s.data.toList) [32]).length then (aF,1)
 else (⟨(Lib.join ((nX x).2.map fun s=>s.data.toList) [32]).toArray⟩,0)
end Go.Proofs.YtpcihajmcejliacGreatDoor
namespace Go.Proofs.YtpcihajmcejliacGreatDoor
open Go.RowKit
namespace prt
open bH
def Ej:List PanicEntry:=[{ v:=.iface 113 (.agg #[]),recovered:=false }]
structure PW (W u:World) (S:Nat) (row:Value) (acc:List ByteArray):Prop where
 ext:Ext W u
 s:aJ u S #[row] 116
 row:u.ownsRow (S+1) 9 1 row acc.length (acc.map fun s=>.string s)
 hW:W.heap.size≤S
theorem PW.extend {W u u':World} {S:Nat} {row:Value} {acc:List ByteArray} (h:PW W u S row acc) (hE:Ext u u'):PW W u' S row acc:=
 ⟨h.ext.ext hE,h.s.ext hE,zG h.row hE,h.hW⟩
theorem PW.own {W u:World} {S:Nat} {row:Value} {acc:List ByteArray} (h:PW W u S row acc):∀ i,row.ownBlock=some i→S+1≤i∧i<u.heap.size:=fun i e=>World.ownsRow.lt h.row i e
def LR (S:Nat) (row:Value):Nat→Prop:=fun i=>i=S∨row.ownBlock=some i
structure PF (W u0 u:World) (S:Nat) (kU row:Value) (acc:List ByteArray):Prop where
 pw:PW W u S row acc
 aU:aB (LR S kU) u0 u
 own:∀ i,row.ownBlock=some i→kU.ownBlock=some i∨u0.heap.size≤i
theorem PF.refl {W u:World} {S:Nat} {row:Value} {acc:List ByteArray} (h:PW W u S row acc):PF W u u S row row acc:=⟨h,aB.refl _ _,fun _ e=>.inl e⟩
theorem PF.extend {W u0 u u':World} {S:Nat} {kU row:Value} {acc:List ByteArray} (h:PF W u0 u S kU row acc) (hE:Ext u u'):PF W u0 u' S kU row acc:=⟨h.pw.extend hE,h.aU.ext hE,h.own⟩
theorem PF.then {W u0 u u':World} {S:Nat} {kU row row':Value} {acc acc':List ByteArray} (h:PF W u0 u S kU row acc) (k:PF W u u' S row row' acc'):PF W u0 u' S kU row' acc':=
 ⟨k.pw,h.aU.trans k.aU (fun i hi e=>by
  rcases e with e|e
  ·exact .inl e
  ·rcases h.own i e with f|f
   ·exact .inr f
   ·omega),fun i e=>by
  rcases k.own i e with f|f
  ·exact h.own i f
  ·exact .inr (Nat.le_trans h.aU.size f)⟩
theorem DD {w w':World} {base:Nat} {e:TypeId} {size:Nat} {v:Value} {n:Nat} {xs:List Value} {S:Nat→Prop} (h:w.ownsRow base e size v n xs) (hc:aB S w w') (hn:∀ i,v.ownBlock=some i→¬ S i):w'.ownsRow base e size v n xs:=by
 obtain⟨h1,h2⟩:=h;refine⟨h1,?_⟩
 rcases h2 with h2|⟨g,cap,cur,hv,hg,hh,r⟩
 ·exact .inl h2
 ·refine .inr ⟨g,cap,cur,hv,hg,?_,r⟩
  have hlt:g<w.heap.size:=by
   rcases Nat.lt_or_ge g w.heap.size with h'|h'
   ·exact h'
   ·rw [Array.getElem?_eq_none h'] at hh;cases hh
  rw [hc.block g hlt (hn g (by rw [hv];rfl))];exact hh
structure PB (W u0 u:World) (S Nb:Nat) (kU row:Value) (acc:List ByteArray) (nc:Array Value):Prop where
 f:PF W u0 u S kU row acc
 nb:aJ u Nb nc 24
 hS:S<Nb
 hR:∀ i,row.ownBlock=some i→i≠Nb
 hU:u0.heap.size≤Nb
theorem PB.extend {W u0 u u':World} {S Nb:Nat} {kU row:Value} {acc:List ByteArray} {nc:Array Value} (h:PB W u0 u S Nb kU row acc nc) (hE:Ext u u'):PB W u0 u' S Nb kU row acc nc:=⟨h.f.extend hE,h.nb.ext hE,h.hS,h.hR,h.hU⟩
theorem PB.call {W u0 u u':World} {S Nb:Nat} {kU row row':Value} {acc acc':List ByteArray} {nc:Array Value} (h:PB W u0 u S Nb kU row acc nc) (k:PF W u u' S row row' acc'):PB W u0 u' S Nb kU row' acc' nc:=
 ⟨h.f.then k,h.nb.aU k.aU (fun e=>by
  have:=h.hS;rcases e with e|e
  ·omega
  ·exact h.hR _ e rfl),h.hS,fun i e=>by
  rcases k.own i e with f|f
  ·exact h.hR i f
  ·have:=h.nb.lt;omega,h.hU⟩
theorem PB.setB {W u0 u:World} {S Nb:Nat} {kU row:Value} {acc:List ByteArray} {nc:Array Value} (h:PB W u0 u S Nb kU row acc nc) (o:Nat) (v:Value):PB W u0 (u.setCell ⟨Nb,o,none⟩ v) S Nb kU row acc (nc.setIfInBounds o v):=by
 have hC:=aA (S:=Nb) (aB.refl _ u) o v;have h1:=h.hS;have h2:=h.f.pw.hW;have hu:=h.hU
 exact⟨⟨⟨h.f.pw.ext.trans hC (fun i hi e=>by omega),h.f.pw.s.aU hC (by omega),DD h.f.pw.row hC (fun i e e2=>h.hR i e e2),h2⟩,h.f.aU.trans hC (fun i hi e=>by omega),h.f.own⟩,h.nb.set o v,h1,h.hR,hu⟩
theorem PB.made {W u:World} {S:Nat} {row:Value} {acc:List ByteArray} (h:PW W u S row acc) (nc:Array Value):PB W u (u.alloc (.cells nc 24)) S u.heap.size row row acc nc:=
 ⟨(PF.refl h).extend ((aB.refl _ _).alloc _),aJ.made u nc _,h.s.lt,fun i e=>by have:=(h.own i e).2;omega,Nat.le_refl _⟩
def wO (W u:World) (S:Nat) (row:Value) (acc:List ByteArray) (T:PO) (e:Ending) (u':World):Prop:=
 (∃ row',PF W u u' S row row' (acc++T.2))∧e=(if T.1=true then .returned (.tuple #[]) else .panicked Ej)
theorem sV {u u':World} {own:Option Nat} (hg:u.grownBy u' own):aB (fun i=>own=some i) u u':=
 ⟨hg.os,hg.tape,hg.output,hg.size,fun i hi hn=>hg.block i hi (by first|exact hn|exact fun e=>hn e.symm)⟩
theorem wA {u:World} {B:Nat} {row:Value} {n:Nat} {xs:List Value} (h:u.ownsRow B 9 1 row n xs):∃ a c,row=.slice a n c∧(n≤c∧c≤maxLen):=by
 rcases h.2 with ⟨rfl,h0⟩|⟨g,cap,cur,rfl,_,_,h1,h2,_⟩
 ·exact⟨_,_,by rw [h0],by rw [h0];exact⟨Nat.le_refl _,by decide⟩⟩
 ·exact⟨_,_,rfl,h1,h2⟩
theorem Ek:(Tryz.prog.info? 9).map (fun i=>(i.zero,i.size,i.bytes))=some (some (.string ⟨#[]⟩),1,16):=by kernel_rfl
set_option maxRecDepth 100000 in
set_option maxHeartbeats 4000000 in
theorem VB {W u:World} {S:Nat} {row:Value} {acc:List ByteArray} (h:PW W u S row acc) (ws:List ByteArray) (g:Nat) (hg:aJ u g (ws.map fun s=>Value.string s).toArray 9) (_hgS:g≠S) (_hgr:row.ownBlock≠some g) (hn:0<ws.length) (hm:acc.length+ws.length≤1000000) :
  Calls Tryz.prog 100 #[.pointer (some ⟨S,0,none⟩),.slice (some ⟨g,0,none⟩) ws.length ws.length] u fun e u'=>e=.returned (.tuple #[])∧∃ row',PF W u u' S row row' (acc++ws):=by
 have HP:=Z_ h;have HG:=Z_ hg;have hgc:=hg.cell;have hsc:=h.s.cell;have hsf:=h.s.frozen;have hsl:=h.s.lt;obtain⟨ra,rc,hrow,hr1,hr2⟩:=wA h.row;obtain⟨n,hnn⟩:∃ n,acc.length=n:=⟨_,rfl⟩;obtain⟨k,hk⟩:∃ k,ws.length=k:=⟨_,rfl⟩;have HR:=Z_ h.row;have HOW:=Z_ h.own;rw [hnn] at hrow hm HR;rw [hk] at hm hn ⊢;subst hrow;obtain⟨mg,mD,hz0,hz1,hz2⟩:=bH.bD Ek;have HN:=Z_ (And.intro hnn hk);clear h hg hnn hk hr1 hr2;go_enter Tryz.func100,Tryz.ntmps100
 go_wp2_with (at_builtin;refine wpList_append_lies _ rfl _ _ 39 rfl (S+1) 9 mg (.string ⟨#[]⟩) 1 16 Tryz.underlying39 mD hz0 hz1 hz2 rfl (by decide) (.slice ra n rc) n (acc.map fun s=>.string s) rfl HR.out ⟨g,0,none⟩ k k (ws.map fun s=>.string s) rfl (by simp [HN.out.2]) (by intro j z_ hj;have e:(⟨g,0,none⟩:Addr).add j=⟨g,j,none⟩:=(by unfold Addr.add;split<;>simp_all);rw [e,HG.out.cell];simpa using hj) (by intro z_ qL;simp only [List.mem_map] at qL;obtain⟨s9,-,rfl⟩:=qL;rfl) hn (by unfold maxLen;omega) (by omega) (by omega) u.heap.size rfl ?_;intro g9 c9 w9 kQ kM mF yK;have jP:=sV kM;have hs9:=HP.out.s.aU jP (fun e=>by have:=(HOW.out _ e).1;omega);have oU:=Z_ (And.intro kQ (And.intro jP (And.intro hs9 mF)));have hqc:=hs9.cell;have Df:=hs9.frozen;have kN:=hs9.lt;clear kQ kM mF jP hs9)
 go_end0
 obtain⟨kQ,jP,hs9,mF⟩:=oU.out;have hset:=aA (S:=S) (aB.refl _ w9) 0 (.slice (some ⟨g9,0,none⟩) (n+k) c9);have Tv:aB (LR S (.slice ra n rc)) u (w9.setCell ⟨S,0,none⟩ (.slice (some ⟨g9,0,none⟩) (n+k) c9)):=(jP.weak (S':=LR S (.slice ra n rc)) fun i _ e=>.inr e).trans hset (fun i _ e=>.inl e);have hW:=HP.out.hW;refine⟨rfl,_,⟨HP.out.ext.trans Tv (fun i hi e=>by rcases e with e|e;omega;have:=(HOW.out i e).1;omega),hs9.set 0 _,?_,hW⟩,Tv,fun i e=>?_⟩
 ·rw [List.length_append,HN.out.1,HN.out.2,List.map_append]
  exact kZ kQ hset (fun i hi e=>by omega)
 ·obtain rfl:g9=i:=by simpa [Value.ownBlock] using e
  rcases mF with e|e
  ·exact .inl e
  ·exact .inr (by omega)
set_option maxRecDepth 100000 in
set_option maxHeartbeats 4000000 in
theorem Ce {W u:World} {S:Nat} {row:Value} {acc:List ByteArray} (h:PW W u S row acc) (ws:List ByteArray) (g:Nat) (hg:aJ u g (ws.map fun s=>Value.string s).toArray 9) (_hgS:g≠S) (_hgr:row.ownBlock≠some g) (hn:0<ws.length) (hm:acc.length+ws.length≤1000000) (md:FrameMode) :
  CallsD Tryz.prog 100 #[.pointer (some ⟨S,0,none⟩),.slice (some ⟨g,0,none⟩) ws.length ws.length] md u fun e md' u'=>md'=md∧e=.returned (.tuple #[])∧∃ row',PF W u u' S row row' (acc++ws):=by
 have HP:=Z_ h;have HG:=Z_ hg;have hgc:=hg.cell;have hsc:=h.s.cell;have hsf:=h.s.frozen;have hsl:=h.s.lt;obtain⟨ra,rc,hrow,hr1,hr2⟩:=wA h.row;obtain⟨n,hnn⟩:∃ n,acc.length=n:=⟨_,rfl⟩;obtain⟨k,hk⟩:∃ k,ws.length=k:=⟨_,rfl⟩;have HR:=Z_ h.row;have HOW:=Z_ h.own;rw [hnn] at hrow hm HR;rw [hk] at hm hn ⊢;subst hrow;obtain⟨mg,mD,hz0,hz1,hz2⟩:=bH.bD Ek;have HN:=Z_ (And.intro hnn hk);clear h hg hnn hk hr1 hr2;go_enter_d Tryz.func100,Tryz.ntmps100
 go_wp2_with (at_builtin;refine wpList_append_lies _ rfl _ _ 39 rfl (S+1) 9 mg (.string ⟨#[]⟩) 1 16 Tryz.underlying39 mD hz0 hz1 hz2 rfl (by decide) (.slice ra n rc) n (acc.map fun s=>.string s) rfl HR.out ⟨g,0,none⟩ k k (ws.map fun s=>.string s) rfl (by simp [HN.out.2]) (by intro j z_ hj;have e:(⟨g,0,none⟩:Addr).add j=⟨g,j,none⟩:=(by unfold Addr.add;split<;>simp_all);rw [e,HG.out.cell];simpa using hj) (by intro z_ qL;simp only [List.mem_map] at qL;obtain⟨s9,-,rfl⟩:=qL;rfl) hn (by unfold maxLen;omega) (by omega) (by omega) u.heap.size rfl ?_;intro g9 c9 w9 kQ kM mF yK;have jP:=sV kM;have hs9:=HP.out.s.aU jP (fun e=>by have:=(HOW.out _ e).1;omega);have oU:=Z_ (And.intro kQ (And.intro jP (And.intro hs9 mF)));have hqc:=hs9.cell;have Df:=hs9.frozen;have kN:=hs9.lt;clear kQ kM mF jP hs9)
 go_end0
 obtain⟨kQ,jP,hs9,mF⟩:=oU.out;have hset:=aA (S:=S) (aB.refl _ w9) 0 (.slice (some ⟨g9,0,none⟩) (n+k) c9);have Tv:aB (LR S (.slice ra n rc)) u (w9.setCell ⟨S,0,none⟩ (.slice (some ⟨g9,0,none⟩) (n+k) c9)):=(jP.weak (S':=LR S (.slice ra n rc)) fun i _ e=>.inr e).trans hset (fun i _ e=>.inl e);have hW:=HP.out.hW;refine⟨rfl,_,⟨HP.out.ext.trans Tv (fun i hi e=>by rcases e with e|e;omega;have:=(HOW.out i e).1;omega),hs9.set 0 _,?_,hW⟩,Tv,fun i e=>?_⟩
 ·rw [List.length_append,HN.out.1,HN.out.2,List.map_append]
  exact kZ kQ hset (fun i hi e=>by omega)
 ·obtain rfl:g9=i:=by simpa [Value.ownBlock] using e
  rcases mF with e|e
  ·exact .inl e
  ·exact .inr (by omega)
def Tz (b:Bool) (u:World) (e:Ending) (u':World):Prop:=e=(if b=true then .returned (.tuple #[]) else .panicked Ej)∧u'=u
theorem gq (b:Bool) (u:World):Calls Tryz.prog 99 #[.bool b] u (Tz b u):=by
 cases b with
 | true=>
  go_enter Tryz.func99,Tryz.ntmps99
  go_wp2_with fail
  go_end0
  exact⟨rfl,rfl⟩
 | false=>
  go_enter Tryz.func99,Tryz.ntmps99
  go_wp2_with fail
  exact⟨rfl,rfl,rfl⟩
theorem yt (t:ByteArray):(t.toList=[])↔t=⟨#[]⟩:=by
 rw [Go.ByteArray.toList_eq];exact⟨fun h=>ByteArray.ext (Array.toList_inj.1 h),fun h=>by rw [h]⟩
def zh (b:Bool) (v:Value) (u:World) (e:Ending) (u':World):Prop:=e=(if b=true then .returned v else .panicked Ej)∧Ext u u'
set_option maxRecDepth 100000 in
set_option maxHeartbeats 4000000 in
theorem iZ (k m:Int) (t:ByteArray) (a:Option Addr) (n c:Nat) (least most num:Int) (u:World) :
  Calls Tryz.prog 179 #[.agg #[.int .i64 k,.string t,.int .i64 m,.slice a n c],.int .i64 least,.int .i64 most,.int .i64 num] u (zh (cZ t m n least most num) (.tuple #[]) u):=by
 obtain⟨b,hb⟩:∃ b,cZ t m n least most num=b:=⟨_,rfl⟩;rw [hb];have HB:=Z_ hb;have HE:=Z_ ((aB.refl (fun _=>False) u).alloc (.cells #[.int .i64 k,.string t,.int .i64 m,.slice a n c] 24));clear hb;go_enter Tryz.func179,Tryz.ntmps179
 go_upto_region 1 with (fail)
 have HK:=Z_ (aJ.made u #[.int .i64 k,.string t,.int .i64 m,.slice a n c] 24);obtain⟨Nb,hNb⟩:∃ Nb,u.heap.size=Nb:=⟨_,rfl⟩;rw [hNb] at HK
 try rw [hNb]
 generalize u.alloc (.cells #[.int .i64 k,.string t,.int .i64 m,.slice a n c] 24)=u0 at *;clear hNb;have hbc:=HK.out.cell;go_wp2_with fail
 all_goals
  refine(gq _ _).mono ?_
  rintro e w9 ⟨he,rfl⟩;split at he
  ·rename_i hyes
   subst he;have hb:b=true:=by rw [←HB.out];clear hbc;unfold cZ nH aF;simp only [yt] at *;first|(simp_all;done)|(simp_all;omega)
   go_wp2_with fail
   go_end0
   exact⟨by rw [hb];rfl,HE.out⟩
  ·rename_i hno
   subst he;have hb:b=false:=by rw [←HB.out];clear hbc;unfold cZ nH aF;simp only [yt] at *;first|(simp_all;done)|(simp_all;omega)
   go_wp2_with fail
   subst hb;exact⟨rfl,rfl,HE.out⟩
theorem IV (t:ByteArray) (m:Int) (n:Nat) (least most num:Int):eH t m n least most num=(nameB t.data.toList&&cZ ⟨#[]⟩ m n least most num):=by
 unfold eH cZ aF;simp
set_option maxRecDepth 100000 in
set_option maxHeartbeats 4000000 in
theorem oM (k m:Int) (t:ByteArray) (a:Option Addr) (n c:Nat) (least most num:Int) (u:World) (ht:t.size≤maxLen) (hv:ErrVar u) (hm:dG u) :
  Calls Tryz.prog 101 #[.agg #[.int .i64 k,.string t,.int .i64 m,.slice a n c],.int .i64 least,.int .i64 most,.int .i64 num] u (zh (eH t m n least most num) (.string t) u):=by
 rw [IV];obtain⟨nb,hnb⟩:∃ nb,nameB t.data.toList=nb:=⟨_,rfl⟩;obtain⟨pb,hpb⟩:∃ pb,cZ ⟨#[]⟩ m n least most num=pb:=⟨_,rfl⟩;have jX:=Z_ (fun w=>iZ k m ⟨#[]⟩ a n c least most num w);rw [hpb] at jX ⊢;have HE:=Z_ ((aB.refl (fun _=>False) u).alloc (.cells #[.int .i64 k,.string t,.int .i64 m,.slice a n c] 24));have HK:=Z_ (aJ.made u #[.int .i64 k,.string t,.int .i64 m,.slice a n c] 24);obtain⟨Nb,hNb⟩:∃ Nb,u.heap.size=Nb:=⟨_,rfl⟩;rw [hNb] at HK;have HN:=Z_ (name.oG t _ (by unfold maxLen at ht;omega) (hv.ext HE.out) (hm.ext HE.out));have C7:=Z_ hNb;rw [hnb] at HN ⊢;clear hv hm ht hnb hpb;go_enter Tryz.func101,Tryz.ntmps101
 go_upto_region 1 with (fail)
 try rw [hNb]
 generalize u.alloc (.cells #[.int .i64 k,.string t,.int .i64 m,.slice a n c] 24)=u0 at *;clear hNb;have hbc:=HK.out.cell;go_wp2_with fail
 refine HN.out.mono ?_
 rintro e u1 ⟨rfl,hE1⟩;have HK1:=Z_ (HK.out.ext hE1);have J0:=Z_ (HE.out.ext hE1);clear hbc HK HE hE1 HN;go_wp2_with fail
 refine(gq nb _).mono ?_
 rintro e w9 ⟨rfl,rfl⟩;have hbc:=HK1.out.cell;have hbf:=HK1.out.frozen;have hbl:=HK1.out.lt;cases nb with
 | false=>
  simp only [Bool.false_eq_true,if_false];go_wp2_with fail
  exact⟨rfl,rfl,J0.out⟩
 | true=>
  simp only [if_true];have Jj:=Z_ (HK1.out.set 1 (.string ⟨#[]⟩));have tK:=Z_ (J0.out.bM (p:=⟨Nb,1,none⟩) (by have:=C7.out;show u.heap.size≤Nb;omega) (.string ⟨#[]⟩));have ax9:=Jj.out.cell;go_wp2_with fail
  refine(jX.out _).mono ?_
  rintro e w3 ⟨he,jq⟩;have zu:=Z_ (tK.out.ext jq);clear jq hbc hbf hbl ax9;cases pb with
  | true=>
   obtain rfl:e=_:=he;simp only [if_true];go_wp2_with fail
   go_ret
   exact⟨rfl,zu.out⟩
  | false=>
   obtain rfl:e=_:=he;simp only [Bool.false_eq_true,if_false];go_wp2_with fail
   exact⟨rfl,rfl,zu.out⟩
set_option maxRecDepth 100000 in
set_option maxHeartbeats 4000000 in
theorem TA (s:ByteArray) (w:World) (hs:s.size≤9223372036854775807) :
  Calls Tryz.prog 336 #[.string s,.string ⟨#[46]⟩] w fun e w'=>e=.returned (.tuple #[.string (lQ s).1,.string (lQ s).2.1,.bool (lQ s).2.2])∧Ext w w':=by
 have hI:=Tryz.stringslite_Index_one s 46 w;rw [←Lib.index_one] at hI;have HI:=Z_ hI;clear hI;unfold lQ;rcases Lib.indexB_cases s ⟨#[46]⟩ with hix|⟨i,hix,hroom⟩
 ·obtain⟨e1,e2,e3⟩:=Lib.cutB_miss s ⟨#[46]⟩ hix
  have e1':(⟨(Lib.cut s.data.toList [46]).1.toArray⟩:ByteArray)=s:=e1;have e2':(⟨(Lib.cut s.data.toList [46]).2.1.toArray⟩:ByteArray)=ByteArray.empty:=e2;have e3':(Lib.cut s.data.toList [46]).2.2=false:=e3;rw [e1',e2',e3'];have hx:Lib.index s.data.toList [46]=-1:=hix;rw [hx] at HI;clear hix e1 e2 e3 e1' e2' e3' hx;go_enter Tryz.func336,Tryz.ntmps336
  go_wp2_with fail
  refine HI.out.mono ?_
  rintro e w' ⟨rfl,rfl⟩;go_wp2_with fail
  go_ret3
  exact⟨rfl,aB.refl _ _⟩
 ·obtain⟨e1,e2,e3⟩:=Lib.cutB_hit s ⟨#[46]⟩ i hix
  have e1':(⟨(Lib.cut s.data.toList [46]).1.toArray⟩:ByteArray)=s.extract 0 i:=e1;have e2':(⟨(Lib.cut s.data.toList [46]).2.1.toArray⟩:ByteArray)=s.extract (i+1) s.size:=e2;have e3':(Lib.cut s.data.toList [46]).2.2=true:=e3;rw [e1',e2',e3'];have hx:Lib.index s.data.toList [46]=i:=hix;rw [hx] at HI;have hr:i+1≤s.size:=hroom;have c1:(0:Int)≤↑i:=by omega
  have c2:(↑i:Int)≤↑s.size:=by omega
  obtain⟨q,hq⟩:∃ q,i+1=q:=⟨_,rfl⟩;rw [hq] at hr ⊢;have hw:IntKind.i64.wrap ((i:Int)+1)=(q:Int):=by rw [wrap_small _ (by omega) (by omega)];omega
  have c3:(0:Int)≤(q:Int):=by omega
  have c4:(q:Int)≤↑s.size:=by omega
  clear hq;clear hix e1 e2 e3 e1' e2' e3' hx hroom;go_enter Tryz.func336,Tryz.ntmps336
  go_wp2_with fail
  refine HI.out.mono ?_
  rintro e w' ⟨rfl,rfl⟩;go_upto_region 3 with (fail)
  go_quiet (fail)
  go_wp2_with fail
  go_ret3
  exact⟨rfl,(aB.refl _ _).drewN _⟩
set_option maxRecDepth 100000 in
theorem VC (s:ByteArray) (w:World) (hs:s.size≤9223372036854775807) :
  Calls Tryz.prog 278 #[.string s,.string ⟨#[46]⟩] w fun e w'=>e=.returned (.tuple #[.string (lQ s).1,.string (lQ s).2.1,.bool (lQ s).2.2])∧Ext w w':=by
 have HI:=Z_ (TA s w hs);generalize lQ s=q at *;obtain⟨q1,q2,q3⟩:=q;clear hs;go_enter Tryz.func278,Tryz.ntmps278
 go_wp2_with fail
 refine HI.out.mono ?_
 rintro e w' ⟨rfl,hE⟩;have HE:=Z_ hE;clear hE HI;go_wp2_with fail
 go_ret3
 exact⟨rfl,HE.out⟩
end prt
end Go.Proofs.YtpcihajmcejliacGreatDoor
namespace Go.Proofs.YtpcihajmcejliacGreatDoor
open Go.RowKit
namespace prt
open bH
theorem bQ {W w:World} {S:Nat} {row:Value} {acc:List ByteArray} (h:PW W w S row acc) (ws:List ByteArray) (cs:Array Value) (hcs:cs=(ws.map fun s=>Value.string s).toArray) (k:Nat) (hk:k=ws.length) (hn:0<k) (hm:acc.length+k≤1000000) :
  Calls Tryz.prog 100 #[.pointer (some ⟨S,0,none⟩),.slice (some ⟨w.heap.size,0,none⟩) k k] (w.alloc (.cells cs 9)) fun e u'=>e=.returned (.tuple #[])∧∃ row',PF W w u' S row row' (acc++ws):=by
 subst hcs;subst hk;have hE:=(aB.refl (fun _=>False) w).alloc (.cells (ws.map fun s=>Value.string s).toArray 9);refine(VB (h.extend hE) ws w.heap.size (aJ.made w _ _) (by have:=h.s.lt;omega) (fun e=>by have:=(h.own _ e).2;omega) hn hm).mono ?_
 rintro e u' ⟨he,row',hF⟩;exact⟨he,row',((PF.refl h).extend hE).then hF⟩
theorem eU {W u u':World} {S:Nat} {row row':Value} {acc ws:List ByteArray} {T:PO} (hT:T=(true,ws)) (h:PF W u u' S row row' (acc++ws)):wO W u S row acc T (.returned (.tuple #[])) u':=by
 subst hT;exact⟨⟨row',h⟩,rfl⟩
theorem aG {W u u':World} {S:Nat} {row row':Value} {acc ws:List ByteArray} {T:PO} (hT:T=(false,ws)) (h:PF W u u' S row row' (acc++ws)):wO W u S row acc T (.panicked Ej) u':=by
 subst hT;exact⟨⟨row',h⟩,rfl⟩
theorem PF.nil {W u u':World} {S:Nat} {row row':Value} {acc:List ByteArray} (h:PF W u u' S row row' acc):PF W u u' S row row' (acc ++ []):=by rw [List.append_nil];exact h
theorem PF.assoc {W u u':World} {S:Nat} {row row':Value} {acc a b:List ByteArray} (h:PF W u u' S row row' (acc++a++b)):PF W u u' S row row' (acc++(a++b)):=by rw [←List.append_assoc];exact h
set_option maxRecDepth 100000 in
theorem cE {W u:World} {S:Nat} {row:Value} {acc:List ByteArray} (h:PW W u S row acc) (b:Bool) (hm:acc.length+1≤1000000) :
  Calls Tryz.prog 181 #[.pointer (some ⟨S,0,none⟩),.bool b] u fun e u'=>e=.returned (.tuple #[])∧∃ row',PF W u u' S row row' (acc ++ [jh b]):=by
 have HP:=Z_ h;have HM:=Z_ hm;clear h hm;cases b with
 | true=>
  go_enter Tryz.func181,Tryz.ntmps181
  go_wp2_with fail
  refine(bQ HP.out [pF] _ rfl 1 rfl (by decide) HM.out).mono ?_
  rintro e w2 ⟨rfl,Vp,hF2⟩;have HF:=Z_ hF2;clear hF2;go_wp2_with fail
  go_end0
  exact⟨rfl,Vp,HF.out⟩
 | false=>
  go_enter Tryz.func181,Tryz.ntmps181
  go_wp2_with fail
  refine(bQ HP.out [rI] _ rfl 1 rfl (by decide) HM.out).mono ?_
  rintro e w2 ⟨rfl,Vp,hF2⟩;have HF:=Z_ hF2;clear hF2;go_wp2_with fail
  go_end0
  exact⟨rfl,Vp,HF.out⟩
theorem Pq (t:ByteArray) (m:Int) (n:Nat) (least most:Int):qB t m n least most=((nameB (lQ t).1.data.toList&&(!(lQ t).2.2 || nameB (lQ t).2.1.data.toList))&&cZ ⟨#[]⟩ m n least most 0):=by
 unfold qB cZ aF;simp
theorem Bh (t:ByteArray):(lQ t).1.size≤t.size∧(lQ t).2.1.size≤t.size:=by
 have h1:t.data.toList.length=t.size:=by rw [Array.length_toList];rfl
 unfold lQ Lib.cut;split
 ·refine⟨?_,?_⟩
  ·show (List.take _ t.data.toList).toArray.size≤t.size
   rw [List.size_toArray,List.length_take];omega
  ·show (List.drop _ t.data.toList).toArray.size≤t.size
   rw [List.size_toArray,List.length_drop];omega
 ·refine⟨?_,?_⟩
  ·show t.data.toList.toArray.size≤t.size
   rw [List.size_toArray];omega
  ·show ([]:List UInt8).toArray.size≤t.size
   exact Nat.zero_le _
set_option maxRecDepth 100000 in
set_option maxHeartbeats 8000000 in
theorem ni {W u:World} {S:Nat} {row:Value} {acc:List ByteArray} (h:PW W u S row acc) (hv:ErrVar W) (hmv:dG W) (k m:Int) (t:ByteArray) (a:Option Addr) (n c:Nat) (least most:Int) (ht:t.size≤maxLen) (hm:acc.length+3≤1000000) :
  Calls Tryz.prog 231 #[.pointer (some ⟨S,0,none⟩),.agg #[.int .i64 k,.string t,.int .i64 m,.slice a n c],.int .i64 least,.int .i64 most] u (wO W u S row acc (gG t m n least most)):=by
 obtain⟨T,hT⟩:∃ T,gG t m n least most=T:=⟨_,rfl⟩;rw [hT];unfold gG jA at hT;rw [Pq] at hT;have hc:=Bh t;have hCU:=fun w=>VC t w (by unfold maxLen at ht;exact ht)
 generalize lQ t=q at hT hc hCU;obtain⟨q1,q2,q3⟩:=q;simp only at hT hc hCU;have h1:=fun w (hE:Ext W w)=>name.oG q1 w (by unfold maxLen at ht;omega) (hv.ext hE) (hmv.ext hE)
 have h2:=fun w (hE:Ext W w)=>name.oG q2 w (by unfold maxLen at ht;omega) (hv.ext hE) (hmv.ext hE)
 have hpl:=fun w=>iZ k m ⟨#[]⟩ a n c least most 0 w
 generalize nameB q1.data.toList=n1 at hT h1;generalize nameB q2.data.toList=n2 at hT h2;generalize cZ ⟨#[]⟩ m n least most 0=pb at hT hpl;have HT:=Z_ hT;have H1:=Z_ h1;have H2:=Z_ h2;have jX:=Z_ hpl;have HCU:=Z_ hCU;have HB:=Z_ (PB.made h #[.int .i64 k,.string t,.int .i64 m,.slice a n c]);obtain⟨Nb,hNb⟩:∃ Nb,u.heap.size=Nb:=⟨_,rfl⟩;rw [hNb] at HB;have HM:=Z_ hm;clear hT h1 h2 hpl hCU hc h hv hmv ht hm;go_enter Tryz.func231,Tryz.ntmps231
 go_upto_region 1 with (fail)
 try rw [hNb]
 generalize u.alloc (.cells #[.int .i64 k,.string t,.int .i64 m,.slice a n c] 24)=u0 at *;clear hNb;have hbc:=HB.out.nb.cell;go_wp2_with fail
 refine(HCU.out _).mono ?_
 rintro e w1 ⟨rfl,hE1⟩;have Ul:=Z_ (HB.out.extend hE1);clear hbc hE1 HB HCU;obtain⟨pr,hpr⟩:∃ pr:Bool,(n1&&(!q3 || n2))=pr:=⟨_,rfl⟩;rw [hpr] at HT;have LZ:=Z_ hpr;clear hpr;go_upto_region 2 with (fail)
 go_cut [] (fun w'=>pr=true∧PB W u w' S Nb row row acc #[.int .i64 k,.string t,.int .i64 m,.slice a n c])
 case first=>
  go_wp2_with fail
  refine(H1.out _ Ul.out.f.pw.ext).mono ?_
  rintro e w2 ⟨rfl,hE2⟩;have HB2:=Z_ (Ul.out.extend hE2);clear hE2 Ul H1;cases n1 with
  | false=>
   obtain rfl:pr=false:=LZ.out.symm;go_wp2_with fail
   refine(gq false _).mono ?_
   rintro e w3 ⟨rfl,rfl⟩;simp only [Bool.false_eq_true,if_false];go_wp2_with fail
   exact⟨rfl,aG (by rw [←HT.out];rfl) HB2.out.f.nil⟩
  | true=>
   cases q3 with
   | false=>
    obtain rfl:pr=true:=LZ.out.symm;go_wp2_with fail
    refine(gq true _).mono ?_
    rintro e w3 ⟨rfl,rfl⟩;simp only [if_true];go_wp2_with fail
    go_meet
    exact⟨trivial,HB2.out⟩
   | true=>
    obtain rfl:n2=pr:=LZ.out;go_wp2_with fail
    refine(H2.out _ HB2.out.f.pw.ext).mono ?_
    rintro e w3 ⟨rfl,jq⟩;have HB3:=Z_ (HB2.out.extend jq);clear jq HB2;go_wp2_with fail
    refine(gq n2 _).mono ?_
    rintro e w4 ⟨rfl,rfl⟩;cases n2 with
    | true=>
     simp only [if_true];go_wp2_with fail
     go_meet
     exact⟨trivial,HB3.out⟩
    | false=>
     simp only [Bool.false_eq_true,if_false];go_wp2_with fail
     exact⟨rfl,aG (by rw [←HT.out];rfl) HB3.out.f.nil⟩
 case rest=>
  obtain⟨rfl,hB3⟩:=hcut;have HB3:=Z_ hB3;clear hB3 Ul H1 H2 LZ;have hbc:=HB3.out.nb.cell;have hbf:=HB3.out.nb.frozen;have hbl:=HB3.out.nb.lt;go_upto_region 4 with (fail)
  have HB4:=Z_ (HB3.out.setB 1 (.string ⟨#[]⟩));clear hbc hbf hbl HB3;generalize wc.setCell ⟨Nb,1,none⟩ (.string ⟨#[]⟩)=w4 at *;have hbc:=HB4.out.nb.cell;go_wp2_with fail
  refine(jX.out _).mono ?_
  rintro e w5 ⟨he,xN⟩;have ER:=Z_ (HB4.out.extend xN);clear hbc xN HB4 jX;cases pb with
  | false=>
   obtain rfl:e=_:=he;simp only [Bool.false_eq_true,if_false];go_wp2_with fail
   exact⟨rfl,aG (by rw [←HT.out];rfl) ER.out.f.nil⟩
  | true=>
   obtain rfl:e=_:=he;simp only [if_true];go_wp2_with fail
   refine(bQ ER.out.f.pw [q1] _ rfl 1 rfl (by decide) (by have:=HM.out;omega)).mono ?_
   rintro e w6 ⟨rfl,Vu,Pe⟩;have QE:=Z_ (ER.out.call Pe);clear Pe ER;cases q3 with
   | false=>
    go_wp2_with fail
    go_end0
    exact eU (by rw [←HT.out];rfl) QE.out.f
   | true=>
    go_wp2_with fail
    refine(bQ QE.out.f.pw [uO,q2] _ rfl 2 rfl (by decide) (by have:=HM.out;rw [List.length_append,List.length_singleton];omega)).mono ?_
    rintro e w7 ⟨rfl,ax_,YU⟩;have HB7:=Z_ (QE.out.call YU);clear YU QE;go_wp2_with fail
    go_end0
    exact eU (by rw [←HT.out];rfl) HB7.out.f.assoc
end prt
end Go.Proofs.YtpcihajmcejliacGreatDoor
