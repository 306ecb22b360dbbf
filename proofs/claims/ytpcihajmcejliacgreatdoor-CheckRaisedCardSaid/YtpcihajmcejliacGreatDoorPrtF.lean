/- The words that are said are short. A node is printed just where it has the form of one that is read. -/
import Derived.Lib.ItoaLen
import Derived.Lib.Join
import Derived.Test.YtpcihajmcejliacGreatDoorPrtR
import Derived.Test.YtpcihajmcejliacGreatDoorOfD
namespace Go.Proofs.YtpcihajmcejliacGreatDoor
open Go.RowKit
namespace prt
open bH
def dN (p:PO):Prop:=∀ w∈p.2,w.size≤24
theorem aK {a b:PO} (ha:dN a) (hb:dN b):dN (a.then b):=by
 unfold PO.then
 split
 ·intro w hw
  rcases List.mem_append.1 hw with h|h
  ·exact ha w h
  ·exact hb w h
 ·exact ha
theorem bU {b:Bool} {p:PO} (h:b=true→dN p):dN ((bu b).then p):=by
 cases b with
 | false=>intro w hw;simp [PO.then,bu] at hw
 | true=>exact aK (fun w hw=>by simp [bu] at hw) (h rfl)
theorem kK:dN (ah []):=fun w hw=>by simp [ah] at hw
theorem bY {s:ByteArray} (h:s.size≤24):dN (ah [s]):=fun w hw=>by
 obtain rfl:w=s:=by simpa [ah] using hw
 exact h
theorem Pg {s t:ByteArray} (h:s.size≤24) (h2:t.size≤24):dN (ah [s,t]):=fun w hw=>by
 have hw2:w=s∨w=t:=by simpa [ah] using hw
 rcases hw2 with rfl|rfl
 ·exact h
 ·exact h2
theorem qW {s t r:ByteArray} (h:s.size≤24) (h2:t.size≤24) (h3:r.size≤24):dN (ah [s,t,r]):=fun w hw=>by
 have hw2:w=s∨w=t∨w=r:=by simpa [ah] using hw
 rcases hw2 with rfl|rfl|rfl
 ·exact h
 ·exact h2
 ·exact h3
theorem uu {t:ByteArray} (h:nameB t.data.toList=true):t.size≤24:=by
 unfold nameB kT at h;simp only [Bool.and_eq_true,decide_eq_true_eq] at h;have h2:=h.1.1.2;rw [Array.length_toList] at h2;exact Nat.le_trans h2 (by decide)
theorem nB {t:ByteArray} {m:Int} {n:Nat} {a b c:Int} (h:eH t m n a b c=true):t.size≤24:=by
 unfold eH at h;simp only [Bool.and_eq_true] at h;exact uu h.1
theorem pY (b:Bool):dN (ah [jh b]):=bY (by cases b<;>decide)
theorem Ef (m:Int):dN (ah (rK m)):=by
 unfold rK;split
 ·exact bY (by decide)
 ·exact kK
theorem xy (t:ByteArray) (m:Int) (n:Nat) (a b:Int):dN (gG t m n a b):=by
 unfold gG;refine bU fun h=>?_
 unfold qB at h;simp only [Bool.and_eq_true,Bool.or_eq_true,Bool.not_eq_true'] at h;obtain⟨⟨h1,h2⟩,-⟩:=h;unfold jA;cases hc:(lQ t).2.2 with
 | false=>exact bY (uu h1)
 | true=>
  rw [hc] at h2;exact qW (uu h1) (by decide) (uu (by simpa using h2))
theorem KE (m:Int):(dW m).1.size≤24:=by
 unfold dW
 repeat' split
 all_goals decide
theorem KF {b:Bool} {p:PO} (h:dN p):dN (oq b p):=by
 unfold oq;split
 ·intro w hw
  have hw2:w=dh∨w∈p.2∨w=aV:=by simpa using hw
  rcases hw2 with rfl|h2|rfl
  ·decide
  ·exact h w h2
  ·decide
 ·exact h
theorem ja {ks:List PO} (h:∀ p∈ks,dN p) (j:Nat):dN (bF ks j):=by
 unfold bF;rw [List.getD_eq_getElem?_getD];cases hj:ks[j]? with
 | none=>exact kK
 | some p=>exact h p (List.mem_of_getElem? hj)
theorem Eg:∀ {ks:List PO} (_:∀ p∈ks,dN p) (f:Bool),dN (oJ ks f)
 | [],_,_=>kK
 | a::r,h,f=>by
  rw [oJ];refine aK ?_ (aK (h a (List.mem_cons_self ..)) (Eg (fun p hp=>h p (List.mem_cons_of_mem _ hp)) false))
  split
  ·exact kK
  ·exact bY (by decide)
theorem zi:∀ {ks:List PO} (_:∀ p∈ks,dN p),dN (mG ks)
 | [],_=>kK
 | a::r,h=>by
  rw [mG];exact aK (h a (List.mem_cons_self ..)) (zi (fun p hp=>h p (List.mem_cons_of_mem _ hp)))
def ai4 (m:Int):Prop:=0≤m→(xm m).size≤24
theorem Ph {k:Int} {t:ByteArray} {m:Int} {n:Nat} {least:Int} {ks:List PO} (hm:ai4 m) (h:∀ p∈ks,dN p):dN (pV k t m n least ks):=by
 unfold pV;split
 ·exact bU fun _=>bU fun _=>KF (aK (ja h 0) (aK (bY (KE m)) (ja h 1)))
 ·split
  ·exact bU fun _=>aK (bY (by split<;>decide)) (ja h 0)
  ·split
   ·refine bU fun hb=>bY (hm ?_)
    simp only [Bool.and_eq_true,decide_eq_true_eq] at hb;exact hb.1.2
   ·split
    ·exact aK (xy _ _ _ _ _) (aK (bY (by decide)) (aK (ja h 0) (bY (by decide))))
    ·split
     ·exact aK (xy _ _ _ _ _) (aK (bY (by decide)) (aK (Eg h true) (bY (by decide))))
     ·exact bU fun _=>xy _ _ _ _ _
theorem KG {k:Int} {t:ByteArray} {m kd:Int} {ks:List (PO×PO)} (h:∀ p∈ks,dN p.1∧dN p.2):dN (nV k t m kd ks):=by
 have h1:∀ p∈ks.map Prod.fst,dN p:=fun p hp=>by obtain⟨q,hq,rfl⟩:=List.mem_map.1 hp;exact(h q hq).1
 have h2:∀ p∈ks.map Prod.snd,dN p:=fun p hp=>by obtain⟨q,hq,rfl⟩:=List.mem_map.1 hp;exact(h q hq).2
 have hs:dN (ah [aW]):=bY (by decide);unfold nV;split
 ·refine bU fun _=>aK (bY (by split<;>decide)) (aK (bY (by decide)) (aK (ja h1 0) (aK (bY (by decide)) (aK (ja h2 1) ?_))))
  split
  ·exact aK (bY (by decide)) (ja h2 2)
  ·exact kK
 ·split
  ·exact bU fun hp=>aK (pY _) (aK (Pg (nB hp) (by decide)) (aK (ja h1 0) hs))
  ·split
   ·exact bU fun _=>bU fun _=>aK (ja h1 0) (aK (bY (by decide)) (aK (ja h1 1) hs))
   ·split
    ·exact bU fun _=>bU fun _=>aK (bY (by decide)) (aK (ja h1 0) hs)
    ·split
     ·exact bU fun _=>bU fun _=>aK (bY (by split<;>decide)) (aK (pY _) (aK (ja h1 0) hs))
     ·exact bU fun _=>bU fun _=>aK (bY (by decide)) (aK (ja h1 0) hs)
theorem KH {k:Int} {t:ByteArray} {m:Int} {ks:List PO} (h:∀ p∈ks,dN p):dN (zS k t m ks):=by
 unfold zS;exact bU fun _=>bU fun _=>aK (bY (by decide)) (aK (zi h) (bY (by decide)))
theorem join_le (l:List ByteArray) (h:∀ w∈l,w.size≤24):(Lib.join (l.map fun s=>s.data.toList) [32]).length≤25*l.length:=by
 have hl:∀ r:List ByteArray,(∀ w∈r,w.size≤24)→Lib.lens (r.map fun s=>s.data.toList)≤24*r.length:=by
  intro r;induction r with
  | nil=>intro _;simp [Lib.lens]
  | cons x r ih=>
   intro h2;have h3:=ih fun w hw=>h2 w (List.mem_cons_of_mem _ hw)
   have h4:=h2 x (List.mem_cons_self ..);have h5:x.data.toList.length=x.size:=by rw [Array.length_toList];rfl
   simp only [Lib.lens,List.map_cons,List.sum_cons,List.length_cons] at h3 ⊢;omega
 cases l with
 | nil=>simp [Lib.join_nil]
 | cons x r=>
  have h1:=hl (x::r) h;rw [List.map_cons] at h1 ⊢;rw [Lib.join_length];simp only [List.length_cons,List.length_nil,List.length_map] at h1 ⊢;omega
theorem yu {w:World} {k m:Int} {t:ByteArray} {l:List Nd} {v:Value} (h:nO w (.mk k t m l) v):ai4 m∧∀ y∈l,∃ u,nO w y u:=by
 rw [lJ] at h;obtain⟨a,c,-,-,-,⟨-,h1,h2⟩,h3⟩:=h;refine⟨fun h0=>?_,fun y hy=>?_⟩
 ·have h4:=Lib.itoa_length_le m h1 h2
  show (Lib.itoa m).toArray.size≤24
  rw [List.size_toArray];omega
 ·obtain⟨j,hj,rfl⟩:=List.getElem_of_mem hy
  obtain⟨b,o,-,-,u,hu,-⟩:=h3 j hj;exact⟨u,hu⟩
theorem Eh {w:World}:∀ (x:Nd) (least:Int),(∃ v,nO w x v)→dN (fJ least x):=by
 refine gz fun k t m l ih least ⟨v,hv⟩=>?_
 obtain⟨hm,hk⟩:=yu hv;rw [fJ]
 have hK:∀ (r:List Nd) (j:Nat),(∀ x∈r,x∈l)→∀ p∈xZ k m r j,dN p:=by
  intro r;induction r with
  | nil=>intro j _ p hp;simp [xZ] at hp
  | cons x r ih2=>
   intro j hr p hp;rw [xZ] at hp;rcases List.mem_cons.1 hp with rfl|hp
   ·exact ih x (hr x (List.mem_cons_self ..)) _ (hk x (hr x (List.mem_cons_self ..)))
   ·exact ih2 (j+1) (fun y hy=>hr y (List.mem_cons_of_mem _ hy)) p hp
 exact Ph hm (hK l 0 fun x hx=>hx)
theorem Pj {w:World}:∀ (x:Nd),(∃ v,nO w x v)→dN (rZ x)∧dN (qH x):=by
 refine gz fun k t m l ih ⟨v,hv⟩=>?_
 obtain⟨hm,hk⟩:=yu hv
 have hK:∀ (r:List Nd),(∀ x∈r,x∈l)→(∀ p∈vK r,dN p.1∧dN p.2)∧∀ p∈Aj r,dN p:=by
  intro r;induction r with
  | nil=>intro _;exact⟨fun p hp=>by simp [vK] at hp,fun p hp=>by simp [Aj] at hp⟩
  | cons x r ih2=>
   intro hr;have hx:=hr x (List.mem_cons_self ..);obtain⟨i1,i2⟩:=ih2 fun y hy=>hr y (List.mem_cons_of_mem _ hy)
   rw [vK,Aj];refine⟨fun p hp=>?_,fun p hp=>?_⟩
   ·rcases List.mem_cons.1 hp with rfl|hp
    ·exact⟨Eh x 0 (hk x hx),(ih x hx (hk x hx)).2⟩
    ·exact i1 p hp
   ·rcases List.mem_cons.1 hp with rfl|hp
    ·exact(ih x hx (hk x hx)).1
    ·exact i2 p hp
 obtain⟨h1,h2⟩:=hK l fun x hx=>hx
 rw [rZ,qH];exact⟨KG h1,KH h2⟩
theorem Pm {w:World} (x:Nd) (h:∃ v,nO w x v):dN (rJ x):=by
 obtain⟨k,t,m,l⟩:=x;obtain⟨v,hv⟩:=h;obtain⟨-,hk⟩:=yu hv;unfold rJ;refine bU fun hn=>aK (Ef m) (aK (pY _) (aK (bY (nB hn)) (aK (zi fun p hp=>?_) (bY (by decide)))))
 obtain⟨x,hx,rfl⟩:=List.mem_map.1 hp;exact bU fun _=>aK (bY (by decide)) (aK (Eh x 0 (hk x hx)) (bY (by decide)))
theorem Cf:∀ (l:List Nd) (i:Nat),dN (kS l i)
 | [],_=>kK
 | x::r,i=>by
  rw [kS];refine aK ?_ (Cf r (i+1))
  unfold zT;refine bU fun _=>aK ?_ (bU fun hn=>aK (pY _) (bY (nB hn)))
  split
  ·exact bY (by decide)
  ·exact kK
theorem KI {w:World} (x:Nd) (h:∃ v,nO w x v):dN (mY x):=by
 obtain⟨k,t,m,l⟩:=x;obtain⟨v,hv⟩:=h;obtain⟨-,hk⟩:=yu hv;unfold mY;refine bU fun hn=>aK (Ef m) (aK (qW (by decide) (nB hn) (by decide)) (aK (Cf _ 0) (aK (bY (by decide)) (aK (pY _) (aK ?_ ?_)))))
 ·split
  ·exact aK (bY (by decide)) (pY _)
  ·exact kK
 ·obtain⟨-,-,hN,-⟩:=qV hn
  rcases List.eq_nil_or_concat l with e|⟨ps,bb,e⟩
  ·rw [e] at hN;simp at hN
  ·rw [List.concat_eq_append] at e
   subst e;rw [List.getLastD_concat];exact(Pj bb (hk bb (by simp))).2
theorem zL {w:World}:∀ (l:List Nd) (d:Bool),(∀ y∈l,∃ u,nO w y u)→dN (iP l d)
 | [],_,_=>kK
 | x::r,d,h=>by
  rw [iP];refine aK ?_ (zL r _ fun y hy=>h y (List.mem_cons_of_mem _ hy))
  have hx:=h x (List.mem_cons_self ..);unfold xI;split
  ·exact bU fun _=>bU fun hn=>qW (by decide) (nB hn) (by decide)
  ·split
   ·exact Pm x hx
   ·exact bU fun _=>KI x hx
theorem Pn {w:World} (x:Nd) (h:∃ v,nO w x v):dN (nX x):=by
 obtain⟨k,t,m,l⟩:=x;obtain⟨v,hv⟩:=h;obtain⟨-,hk⟩:=yu hv;unfold nX;exact bU fun _=>bU fun hn=>aK (qW (by decide) (nB hn) (by decide)) (zL l false hk)
theorem Ei:∀ (l:List Nd) (d:Bool),(iP l d).2.length≤12*gm l
 | [],_=>by simp [iP,ah]
 | x::r,d=>by
  have h1:=Ei r (d || !decide (x.kd=2));have h2:=jK (xI d x) (iP r (d || !decide (x.kd=2)))
  have h3:(xI d x).2.length≤12*dL x:=by
   have hp:=FO x;have hv:=MJ x;have hq:=II x;unfold xI;split
   ·refine Nat.le_trans (iV _ _) (Nat.le_trans (iV _ _) ?_)
    have h4:(ah [kz,x.tx,aW]).2.length=3:=rfl;omega
   ·split
    ·omega
    ·have h4:=iV (decide (x.kd=4)) (mY x)
     omega
  rw [iP];simp only [gm];omega
theorem Vx (x:Nd):(nX x).2.length≤12*dL x:=by
 obtain⟨k,t,m,l⟩:=x;unfold nX;refine Nat.le_trans (iV _ _) (Nat.le_trans (iV _ _) ?_)
 rw [iD];have h1:=Ei l false;simp only [dL,List.length_cons,List.length_nil];omega
end prt
end Go.Proofs.YtpcihajmcejliacGreatDoor
namespace Go.Proofs.YtpcihajmcejliacGreatDoor
open Go.RowKit
namespace prt
open bH
inductive tN:Nd→Prop
 | mk {k:Int} {t:ByteArray} {m:Int} {l:List Nd} (hm:m<9223372036854775808) (hl:∀ y∈l,tN y):tN (.mk k t m l)
theorem tN.num {k:Int} {t:ByteArray} {m:Int} {l:List Nd} (h:tN (.mk k t m l)):m<9223372036854775808:=by cases h;assumption
theorem tN.kids {k:Int} {t:ByteArray} {m:Int} {l:List Nd} (h:tN (.mk k t m l)):∀ y∈l,tN y:=by cases h;assumption
theorem ML:Lib.cut [] [46]=([],[],false):=by decide
theorem yx (c:UInt8) (r:List UInt8):Lib.cut (c::r) [46]=if c=46 then ([],r,true) else (c::(Lib.cut r [46]).1,(Lib.cut r [46]).2.1,(Lib.cut r [46]).2.2):=by
 by_cases h:c=46
 ·subst h
  rw [if_pos rfl];have:Lib.index (46::r) [46]=0:=by unfold Lib.index;simp
  unfold Lib.cut;rw [this];simp
 ·rw [if_neg h]
  have hp:([46]:List UInt8).isPrefixOf (c::r)=false:=by
   simp [List.isPrefixOf,Ne.symm h]
  have e:Lib.index (c::r) [46]=if Lib.index r [46] == -1 then -1 else Lib.index r [46]+1:=by
   rw [Lib.index,if_neg (by rw [hp];decide)]
  have hge:=Lib.index_ge r [46];unfold Lib.cut;rw [e];generalize Lib.index r [46]=i at *;by_cases hi:i=-1
  ·subst hi
   simp
  ·have hb:(i == -1)=false:=by simpa using hi
   rw [hb];simp only [Bool.false_eq_true,if_false];rw [if_pos (by omega),if_pos (by omega)];have e2:(i+1).toNat=i.toNat+1:=by omega
   have e3:(i+1).toNat + [(46:UInt8)].length=(i.toNat + [(46:UInt8)].length)+1:=by rw [e2];simp
   rw [e3,e2,List.take_succ_cons,List.drop_succ_cons]
theorem Tc (a b:List UInt8) (h:∀ c∈a,c≠46):Lib.cut (a++46::b) [46]=(a,b,true):=by
 induction a with
 | nil=>rw [List.nil_append,yx,if_pos rfl]
 | cons c r ih=>rw [List.cons_append,yx,if_neg (h c (by simp)),ih fun d hd=>h d (by simp [hd])]
theorem Td (a:List UInt8) (h:∀ c∈a,c≠46):Lib.cut a [46]=(a,[],false):=by
 induction a with
 | nil=>exact ML
 | cons c r ih=>rw [yx,if_neg (h c (by simp)),ih fun d hd=>h d (by simp [hd])]
theorem Tf (l:List UInt8):((Lib.cut l [46]).2.2=true→l=(Lib.cut l [46]).1++46::(Lib.cut l [46]).2.1)∧((Lib.cut l [46]).2.2=false→(Lib.cut l [46]).1=l):=by
 induction l with
 | nil=>rw [ML];exact⟨fun h=>(by cases h),fun _=>rfl⟩
 | cons c r ih=>
  rw [yx];split
  ·rename_i hc;subst hc;exact⟨fun _=>rfl,fun h=>(by cases h)⟩
  ·exact⟨fun h=>(by simpa using ih.1 h),fun h=>(by simpa using ih.2 h)⟩
theorem IJ {l:List UInt8} (h:nameB l=true):∀ c∈l,c≠46:=by
 unfold nameB kT at h;simp only [Bool.and_eq_true,List.all_eq_true] at h;rintro c hc rfl;exact absurd (h.1.2 _ hc) (by decide)
theorem SK {a b:ByteArray} (h:a.data.toList=b.data.toList):a=b:=ByteArray.ext (Array.ext' h)
theorem xq {t:ByteArray} (h:lu t):(jr t∧lQ t=(t,aF,false))∨∃ a b,jr a∧jr b∧t=a++(uO++b)∧lQ t=(a,b,true):=by
 rcases h with h|⟨a,b,ha,hb,rfl⟩
 ·refine .inl ⟨h,?_⟩
  unfold lQ;rw [Td _ (IJ h)];rfl
 ·refine .inr ⟨a,b,ha,hb,rfl,?_⟩
  have e:(a++(uO++b)).data.toList=a.data.toList++46::b.data.toList:=by
   simp [uO]
  unfold lQ;rw [e,Tc _ _ (IJ ha)]
theorem Po (t:ByteArray):(nameB (lQ t).1.data.toList&&(!(lQ t).2.2 || nameB (lQ t).2.1.data.toList))=true↔lu t:=by
 constructor
 ·intro h
  simp only [Bool.and_eq_true,Bool.or_eq_true,Bool.not_eq_true'] at h;obtain⟨h1,h2⟩:=h;obtain⟨b1,b2⟩:=Tf t.data.toList;cases hc:(lQ t).2.2 with
  | false=>
   refine .inl ?_
   have e:(lQ t).1.data.toList=t.data.toList:=b2 hc;unfold jr;rw [←e];exact h1
  | true=>
   rw [hc] at h2;refine .inr ⟨_,_,h1,h2.resolve_left (by decide),SK ?_⟩
   have e:=b1 hc;rw [e];simp [uO,lQ]
 ·intro h
  rcases xq h with ⟨h1,e⟩|⟨a,b,ha,hb,-,e⟩
  ·rw [e]
   have h1':nameB t.data.toList=true:=h1;simp [h1']
  ·rw [e]
   have ha':nameB a.data.toList=true:=ha;have hb':nameB b.data.toList=true:=hb;simp [ha',hb']
theorem aX {a b:PO}:(a.then b).1=true↔a.1=true∧b.1=true:=by
 obtain⟨a1,a2⟩:=a;cases a1<;>simp [PO.then]
theorem cH {l:List ByteArray}:(ah l).1=true↔True:=by simp [ah]
theorem bK {b:Bool}:(bu b).1=true↔b=true:=by simp [bu]
theorem IK {b:Bool} {p:PO}:(oq b p).1=true↔p.1=true:=by unfold oq;split<;>rfl
theorem dI {t:ByteArray} {m:Int} {n:Nat} {a b c:Int}:cZ t m n a b c=true↔t=aF∧0≤m∧m≤c∧a≤(n:Int)∧(b<0∨(n:Int)≤b):=by
 unfold cZ nH;simp [and_assoc]
theorem jC {t:ByteArray} {m:Int} {n:Nat} {a b c:Int}:eH t m n a b c=true↔jr t∧0≤m∧m≤c∧a≤(n:Int)∧(b<0∨(n:Int)≤b):=by
 unfold eH nH jr;simp [and_assoc]
theorem oK {t:ByteArray} {m:Int} {n:Nat} {a b:Int}:(gG t m n a b).1=true↔lu t∧m=0∧a≤(n:Int)∧(b<0∨(n:Int)≤b):=by
 unfold gG;rw [aX,bK,cH,and_true];unfold qB;rw [Bool.and_eq_true,Po];unfold nH;simp only [Bool.and_eq_true,Bool.or_eq_true,decide_eq_true_eq,and_assoc];constructor
 ·rintro ⟨h1,h2,h3,h4⟩;exact⟨h1,by omega,h4⟩
 ·rintro ⟨h1,h2,h4⟩;exact⟨h1,by omega,by omega,h4⟩
theorem BZ {m:Int}:0≤(dW m).2↔1≤m∧m≤9:=by
 unfold dW
 repeat' split
 all_goals first|(subst m;decide)|(simp only [show ¬ (0:Int)≤-1 by decide,false_iff];omega)
theorem FH:∀ (ks:List PO) (f:Bool),(oJ ks f).1=true↔∀ p∈ks,p.1=true:=by
 intro ks;induction ks with
 | nil=>intro f;simp [oJ,ah]
 | cons a r ih=>
  intro f;rw [oJ,aX,aX,ih,cH,List.forall_mem_cons,true_and]
theorem FP:∀ (ks:List PO),(mG ks).1=true↔∀ p∈ks,p.1=true:=by
 intro ks;induction ks with
 | nil=>simp [mG,ah]
 | cons a r ih=>rw [mG,aX,ih,List.forall_mem_cons]
theorem BW (m:Int):∀ (l:List Nd) (j:Nat),xZ 18 m l j=l.map (fJ 0):=by
 intro l;induction l with
 | nil=>intro j;rfl
 | cons x r ih=>intro j;rw [xZ,ih];rfl
theorem Ti {P:Nd→Prop}:∀ y∈([]:List Nd),P y:=fun y hy=>by cases hy
theorem len0 {l:List Nd} (h:(l.length:Int)≤0):l=[]:=List.length_eq_zero_iff.1 (by omega)
theorem len1 {l:List Nd} (h:1≤(l.length:Int)) (h2:(l.length:Int)≤1):∃ a,l=[a]:=List.length_eq_one_iff.1 (by omega)
theorem YR {l:List Nd} (h:2≤(l.length:Int)) (h2:(l.length:Int)≤2):∃ a b,l=[a,b]:=by
 rcases l with _|⟨a,_|⟨b,_|⟨c,r⟩⟩⟩
 ·simp at h
 ·simp at h
 ·exact⟨a,b,rfl⟩
 ·simp at h2;omega
theorem ax2 {l:List Nd} (h:2≤(l.length:Int)) (h2:(l.length:Int)≤3):(∃ a b,l=[a,b])∨∃ a b c,l=[a,b,c]:=by
 rcases l with _|⟨a,_|⟨b,_|⟨c,_|⟨d,r⟩⟩⟩⟩
 ·simp at h
 ·simp at h
 ·exact .inl ⟨a,b,rfl⟩
 ·exact .inr ⟨a,b,c,rfl⟩
 ·simp at h2;omega
theorem ke {k m:Int} {t:ByteArray} {l:List Nd} (h:15≤k∧k≤21):mJ (Nd.mk k t m l).kd:=h
theorem most {n:Nat} {b:Int} (hb:0≤b) (h:b<0∨(n:Int)≤b):(n:Int)≤b:=by omega
theorem lZ:∀ (x:Nd) (least:Int),tN x→((fJ least x).1=true↔fC x∧mJ x.kd):=by
 refine gz fun k t m l ih least hr=>?_
 have hk:=hr.kids;have hm:=hr.num;rw [fJ];constructor
 ·intro h
  unfold pV at h;split at h
  ·rename_i hk1;subst hk1
   simp only [aX,bK,IK,cH,true_and,dI,decide_eq_true_eq,BZ] at h;obtain⟨⟨rfl,-,-,h1,h2⟩,hs,h3,h4⟩:=h;obtain⟨a,b,rfl⟩:=YR h1 (most (by decide) h2);have ha:=(ih a (by simp) _ (hk a (by simp))).1 (show (fJ (kO 19 m 0) a).1=true from h3);have hb:=(ih b (by simp) _ (hk b (by simp))).1 (show (fJ (kO 19 m 1) b).1=true from h4);exact⟨.mk (.op hs.1 hs.2 ha.2 hb.2) (pU.zI ha.1 hb.1),ke (by decide)⟩
  split at h
  ·rename_i hk1
   simp only [aX,bK,cH,true_and,dI] at h;obtain⟨⟨rfl,h01,h02,h1,h2⟩,h3⟩:=h;obtain⟨a,rfl⟩:=len1 h1 (most (by decide) h2);obtain rfl:m=0:=by omega
   have ha:=(ih a (by simp) _ (hk a (by simp))).1 (show (fJ (kO k 0 0) a).1=true from h3);rcases hk1 with rfl|rfl
   ·exact⟨.mk (.neg ha.2) (pU.oh ha.1),ke (by decide)⟩
   ·exact⟨.mk (.not_ ha.2) (pU.oh ha.1),ke (by decide)⟩
  split at h
  ·rename_i hk1;subst hk1
   simp only [aX,bK,cH,and_true,Bool.and_eq_true,decide_eq_true_eq] at h;obtain⟨⟨rfl,h0⟩,h1⟩:=h;obtain rfl:=List.length_eq_zero_iff.1 h1;exact⟨.mk (.num h0 hm) Ti,ke (by decide)⟩
  split at h
  ·rename_i hk1;subst hk1
   simp only [aX,cH,true_and,and_true,oK] at h;obtain⟨⟨ht,rfl,h1,h2⟩,h3⟩:=h;obtain⟨a,rfl⟩:=len1 h1 (most (by decide) h2);have ha:=(ih a (by simp) _ (hk a (by simp))).1 (show (fJ (kO 17 0 0) a).1=true from h3);exact⟨.mk (.item ht ha.2) (pU.oh ha.1),ke (by decide)⟩
  split at h
  ·rename_i hk1;subst hk1
   simp only [aX,cH,true_and,and_true,oK,BW,FH] at h;obtain⟨⟨ht,rfl,-⟩,h3⟩:=h;have hl:∀ y∈l,fC y∧mJ y.kd:=fun y hy=>(ih y hy 0 (hk y hy)).1 (h3 _ (List.mem_map_of_mem hy))
   exact⟨.mk (.call ht fun y hy=>(hl y hy).2) fun y hy=>(hl y hy).1,ke (by decide)⟩
  ·simp only [aX,bK,oK,decide_eq_true_eq] at h
   obtain⟨rfl,ht,rfl,-,h2⟩:=h;obtain rfl:=len0 (most (by decide) h2);exact⟨.mk (.name ht) Ti,ke (by decide)⟩
 ·rintro ⟨hX,hke⟩
  have hf:=hX.form;have iI:=hX.kids;have ok:∀ y∈l,mJ y.kd→∀ least,(fJ least y).1=true:=fun y hy h le=>(ih y hy le (hk y hy)).2 ⟨iI y hy,h⟩
  unfold mJ Nd.kd at hke;cases hf with
  | num h0 h1=>simp [pV,aX,bK,cH,h0]
  | name ht=>
   simp only [pV];simp [aX,bK,oK,ht]
  | @item _ x ht hx=>
   have h1:=ok x (by simp) hx;simp [pV,aX,cH,oK,bF,xZ,ht,h1]
  | call ht hl=>
   have h1:∀ y∈l,(fJ 0 y).1=true:=fun y hy=>ok y hy (hl y hy) 0
   simp [pV,aX,cH,oK,BW,FH,ht]
   exact h1
  | @op _ x y h0 h1 hx hy=>
   have h2:=ok x (by simp) hx;have h3:=ok y (by simp) hy;simp [pV,aX,bK,IK,cH,dI,BZ,bF,xZ,h0,h1,h2,h3]
  | @neg x hx=>
   have h2:=ok x (by simp) hx;simp [pV,aX,bK,cH,dI,bF,xZ,h2]
  | @not_ x hx=>
   have h2:=ok x (by simp) hx;simp [pV,aX,bK,cH,dI,bF,xZ,h2]
  | _=>exact absurd hke (by simp)
theorem ks {k m:Int} {t:ByteArray} {l:List Nd} (h:7≤k∧k≤14):uP (Nd.mk k t m l).kd:=h
theorem MN:∀ l:List Nd,Aj l=l.map rZ:=by
 intro l;induction l with
 | nil=>rfl
 | cons x r ih=>rw [Aj,ih];rfl
theorem vN:∀ (x:Nd),tN x→((rZ x).1=true↔fC x∧uP x.kd)∧((qH x).1=true↔fC x∧x.kd=6):=by
 refine gz fun k t m l ih hr=>?_
 have hk:=hr.kids;have ex:∀ y∈l,(fJ 0 y).1=true↔fC y∧mJ y.kd:=fun y hy=>lZ y 0 (hk y hy)
 have st:∀ y∈l,(rZ y).1=true↔fC y∧uP y.kd:=fun y hy=>(ih y hy (hk y hy)).1
 have bl:∀ y∈l,(qH y).1=true↔fC y∧y.kd=6:=fun y hy=>(ih y hy (hk y hy)).2
 rw [rZ,qH];refine⟨⟨fun h=>?_,?_⟩,⟨fun h=>?_,?_⟩⟩
 ·unfold nV at h
  rw [FI] at h;split at h
  ·rename_i hk1
   simp only [aX,bK,cH,true_and,dI] at h;obtain⟨⟨rfl,h01,h02,h1,h2⟩,h3,h4,h5⟩:=h;obtain rfl:m=0:=by omega
   rcases hk1 with rfl|rfl
   ·rcases ax2 h1 (most (by decide) h2) with ⟨a,b,rfl⟩|⟨a,b,c,rfl⟩
    ·have ha:=(ex a (by simp)).1 h3
     have hb:=(bl b (by simp)).1 h4;exact⟨.mk (.WA ha.2 hb.2) (pU.zI ha.1 hb.1),ks (by decide)⟩
    ·have ha:=(ex a (by simp)).1 h3
     have hb:=(bl b (by simp)).1 h4;have h6:(qH c).1=true:=by simpa [aX,cH,bF,vK] using h5
     have hc:=(bl c (by simp)).1 h6;exact⟨.mk (.WB ha.2 hb.2 hc.2) (pU.Xd ha.1 hb.1 hc.1),ks (by decide)⟩
   ·obtain⟨a,b,rfl⟩:=YR h1 (most (by decide) h2)
    have ha:=(ex a (by simp)).1 h3;have hb:=(bl b (by simp)).1 h4;exact⟨.mk (.uV ha.2 hb.2) (pU.zI ha.1 hb.1),ks (by decide)⟩
  split at h
  ·rename_i hk1;subst hk1
   simp only [aX,bK,cH,true_and,and_true,jC] at h;obtain⟨⟨ht,h01,h02,h1,h2⟩,h3⟩:=h;obtain⟨a,rfl⟩:=len1 h1 (most (by decide) h2);have ha:=(ex a (by simp)).1 h3;exact⟨.mk (.loc ht h01 h02 ha.2) (pU.oh ha.1),ks (by decide)⟩
  split at h
  ·rename_i hk1;subst hk1
   simp only [aX,bK,cH,true_and,and_true,dI,Bool.or_eq_true,decide_eq_true_eq] at h;obtain⟨⟨rfl,h01,h02,h1,h2⟩,hp,h3,h4⟩:=h;obtain rfl:m=0:=by omega
   obtain⟨a,b,rfl⟩:=YR h1 (most (by decide) h2);have ha:=(ex a (by simp)).1 h3;have hb:=(ex b (by simp)).1 h4;exact⟨.mk (.set hp hb.2) (pU.zI ha.1 hb.1),ks (by decide)⟩
  split at h
  ·rename_i hk1;subst hk1
   simp only [aX,bK,cH,true_and,and_true,dI,decide_eq_true_eq] at h;obtain⟨⟨rfl,h01,h02,h1,h2⟩,hp,h3⟩:=h;obtain rfl:m=0:=by omega
   obtain⟨a,rfl⟩:=len1 h1 (most (by decide) h2);have ha:=(ex a (by simp)).1 h3;exact⟨.mk (.Wy hp) (pU.oh ha.1),ks (by decide)⟩
  split at h
  ·rename_i hk1
   simp only [aX,bK,cH,true_and,and_true,dI,Bool.or_eq_true,decide_eq_true_eq] at h;obtain⟨⟨rfl,h01,h02,h1,h2⟩,hp,h3⟩:=h;obtain⟨a,rfl⟩:=len1 h1 (most (by decide) h2);have ha:=(ex a (by simp)).1 h3;rcases hk1 with rfl|rfl
   ·exact⟨.mk (.out h01 h02 ha.2) (pU.oh ha.1),ks (by decide)⟩
   ·exact⟨.mk (.inp h01 h02 (hp.resolve_left (by decide))) (pU.oh ha.1),ks (by decide)⟩
  ·simp only [aX,bK,cH,true_and,and_true,dI,decide_eq_true_eq] at h
   obtain⟨rfl,⟨rfl,h01,h02,h1,h2⟩,h3⟩:=h;obtain rfl:m=0:=by omega
   obtain⟨a,rfl⟩:=len1 h1 (most (by decide) h2);have ha:=(ex a (by simp)).1 h3;exact⟨.mk (.ret ha.2) (pU.oh ha.1),ks (by decide)⟩
 ·rintro ⟨hX,hke⟩
  have hf:=hX.form;have iI:=hX.kids;have wL:∀ y∈l,mJ y.kd→(fJ 0 y).1=true:=fun y hy h=>(ex y hy).2 ⟨iI y hy,h⟩
  have Ly:∀ y∈l,y.kd=6→(qH y).1=true:=fun y hy h=>(bl y hy).2 ⟨iI y hy,h⟩
  unfold uP Nd.kd at hke;cases hf with
  | @loc _ _ x ht h0 h1 hx=>
   have h2:=wL x (by simp) hx;simp [nV,aX,bK,cH,jC,bF,vK,ht,h0,h1,h2]
  | @set p x hp hx=>
   have h1:=wL p (by simp) (pU.zA hp);have h2:=wL x (by simp) hx;unfold Jd at hp;simp [nV,aX,bK,cH,dI,bF,vK,Ux,hp,h1,h2]
  | @Wy c hc=>
   have h1:=wL c (by simp) (by rw [hc];exact⟨by decide,by decide⟩);simp [nV,aX,bK,cH,dI,bF,vK,Ux,hc,h1]
  | @WA x b hx hb=>
   have h1:=wL x (by simp) hx;have h2:=Ly b (by simp) hb;simp [nV,aX,bK,cH,dI,bF,vK,h1,h2]
  | @WB x b c hx hb hc=>
   have h1:=wL x (by simp) hx;have h2:=Ly b (by simp) hb;have h3:=Ly c (by simp) hc;simp [nV,aX,bK,cH,dI,bF,vK,h1,h2,h3]
  | @uV x b hx hb=>
   have h1:=wL x (by simp) hx;have h2:=Ly b (by simp) hb;simp [nV,aX,bK,cH,dI,bF,vK,h1,h2]
  | @out _ x h0 h1 hx=>
   have h2:=wL x (by simp) hx;simp [nV,aX,bK,cH,dI,bF,vK,h0,h1,h2]
  | @inp _ x h0 h1 hx=>
   have h2:=wL x (by simp) (pU.zA hx);unfold Jd at hx;simp [nV,aX,bK,cH,dI,bF,vK,Ux,h0,h1,h2,hx]
  | @ret x hx=>
   have h2:=wL x (by simp) hx;simp [nV,aX,bK,cH,dI,bF,vK,h2]
  | _=>exact absurd hke (by simp)
 ·unfold zS at h
  simp only [aX,bK,cH,true_and,and_true,dI,decide_eq_true_eq,FP,MN] at h;obtain⟨rfl,⟨rfl,h01,h02,-,-⟩,h1⟩:=h;obtain rfl:m=0:=by omega
  have hl:∀ y∈l,fC y∧uP y.kd:=fun y hy=>(st y hy).1 (h1 _ (List.mem_map_of_mem hy))
  exact⟨.mk (.block fun y hy=>(hl y hy).2) fun y hy=>(hl y hy).1,rfl⟩
 ·rintro ⟨hX,hke⟩
  have hf:=hX.form;have iI:=hX.kids;have hk6:k=6:=hke;subst hk6;cases hf with
  | block hl=>
   have h1:∀ y∈l,(rZ y).1=true:=fun y hy=>(st y hy).2 ⟨iI y hy,hl y hy⟩
   simp [zS,aX,bK,cH,dI,FP,MN]
   exact h1
theorem Tj (x:Nd) (hr:tN x) (h3:x.kd=3):(rJ x).1=true↔fC x:=by
 obtain⟨k,t,m,l⟩:=x;have hk3:k=3:=h3;subst hk3;have hk:=hr.kids;unfold rJ;simp only [aX,bK,cH,true_and,and_true,jC,FP,List.mem_map,forall_exists_index,and_imp,forall_apply_eq_imp_iff₂,decide_eq_true_eq];constructor
 ·rintro ⟨⟨ht,h0,h1,-,h2⟩,h4⟩
  rcases l with _|⟨a,_|⟨b,r⟩⟩
  ·exact .mk (.var ht h0 h1) Ti
  ·have ha:=h4 a (by simp)
   have he:=(lZ a 0 (hk a (by simp))).1 ha.2;exact .mk (.array ht h0 h1 ha.1) (pU.oh he.1)
  ·simp at h2;omega
 ·intro hX
  have iI:=hX.kids;have hf:=hX.form;cases hf with
  | var ht h0 h1=>exact⟨⟨ht,h0,h1,by simp,.inr (by simp)⟩,Ti⟩
  | @array _ _ y ht h0 h1 hy=>
   refine⟨⟨ht,h0,h1,by simp,.inr (by simp)⟩,fun a ha=>?_⟩
   rw [List.mem_singleton] at ha;subst ha;exact⟨hy,(lZ a 0 (hk a (by simp))).2 ⟨iI a (by simp),by rw [hy];exact⟨by decide,by decide⟩⟩⟩
theorem Tm:∀ (l:List Nd) (i:Nat),(kS l i).1=true↔∀ y∈l,y.kd=5∧eH y.tx y.nm y.kids.length 0 0 1=true:=by
 intro l;induction l with
 | nil=>intro i;simp [kS,ah]
 | cons x r ih=>
  intro i;rw [kS,aX,ih,List.forall_mem_cons];unfold zT;simp only [aX,bK,cH,true_and,and_true,decide_eq_true_eq]
theorem wV (x:Nd):(x.kd=5∧eH x.tx x.nm x.kids.length 0 0 1=true)↔fC x∧x.kd=5:=by
 obtain⟨k,t,m,l⟩:=x;rw [jC];constructor
 ·rintro ⟨h5,ht,h0,h1,-,h2⟩
  have hk5:k=5:=h5;subst hk5;obtain rfl:=len0 (most (by decide) h2);exact⟨.mk (.param ht h0 h1) Ti,h5⟩
 ·rintro ⟨hX,h5⟩
  have hk5:k=5:=h5;subst hk5;have hf:=hX.form;cases hf with
  | param ht h0 h1=>exact⟨rfl,ht,h0,h1,by simp [Nd.kids],.inr (by simp [Nd.kids])⟩
theorem IL (y:Nd):(y.kd=5∧eH y.tx y.nm y.kids.length 0 0 1=true)↔y.kd=5∧jr y.tx∧0≤y.nm∧y.nm≤1∧(0:Int)≤(y.kids.length:Int)∧((0:Int)<0∨(y.kids.length:Int)≤0):=by rw [jC]
theorem vO (x:Nd) (hr:tN x) (h4:x.kd=4):(mY x).1=true↔fC x:=by
 obtain⟨k,t,m,l⟩:=x;have hk4:k=4:=h4;subst hk4;have hk:=hr.kids
 have hg:((if 4≤m then (ah [iJ]).then (ah [jh (decide (8≤m))]) else ah []).1=true)↔True:=by
  split
  ·rw [aX,cH,cH,true_and]
  ·exact cH
 unfold mY;simp only [aX,bK,cH,true_and,jC,Tm,hg];constructor
 ·rintro ⟨⟨ht,h0,h1,hn,-⟩,hp,hb⟩
  rcases List.eq_nil_or_concat l with e|⟨ps,b,e⟩
  ·subst e;simp at hn
  ·rw [List.concat_eq_append] at e
   subst e;rw [List.getLastD_concat] at hb;rw [List.dropLast_concat] at hp;have hb2:=(vN b (hk b (by simp))).2.1 hb;have hp2:∀ y∈ps,fC y∧y.kd=5:=fun y hy=>(wV y).1 ((IL y).2 (hp y hy))
   refine .mk (.proc ht h0 h1 (fun y hy=>(hp2 y hy).2) hb2.2) fun y hy=>?_
   rcases List.mem_append.1 hy with hy|hy
   ·exact(hp2 y hy).1
   ·rw [List.mem_singleton] at hy;subst hy;exact hb2.1
 ·intro hX
  have iI:=hX.kids;have hf:=hX.form;cases hf with
  | @proc _ _ ps b ht h0 h1 hp hb=>
   rw [List.dropLast_concat,List.getLastD_concat];refine⟨⟨ht,h0,h1,by rw [List.length_append,List.length_singleton];omega,.inl (by decide)⟩,fun y hy=>(IL y).1 ((wV y).2 ⟨iI y (by simp [hy]),hp y hy⟩),(vN b (hk b (by simp))).2.2 ⟨iI b (by simp),hb⟩⟩
theorem KJ:∀ (l:List Nd) (d:Bool),(∀ y∈l,tN y)→((iP l d).1=true↔(∀ y∈l,fC y)∧∃ a b,l=a++b∧(d=true→a=[])∧(∀ y∈a,y.kd=2)∧∀ y∈b,y.kd=3∨y.kd=4):=by
 intro l;induction l with
 | nil=>intro d _;exact⟨fun _=>⟨Ti,[],[],rfl,fun _=>rfl,Ti,Ti⟩,fun _=>by simp [iP,ah]⟩
 | cons x r ih=>
  intro d hr;have hx:=hr x (by simp);rw [iP,aX,ih _ fun y hy=>hr y (by simp [hy])];unfold xI;by_cases h2:x.kd=2
  ·rw [if_pos h2]
   have hd:(d || !decide (x.kd=2))=d:=by simp [h2]
   rw [hd];simp only [aX,bK,cH,and_true,jC,Bool.not_eq_true'];constructor
   ·rintro ⟨⟨rfl,ht,h0,h1,-,hn⟩,hl,a,b,rfl,-,ha,hb⟩
    obtain⟨k,t,m,q⟩:=x;have hk2:k=2:=h2;subst hk2;obtain rfl:m=0:=by have:m≤0:=h1;have:0≤m:=h0;omega
    obtain rfl:q=[]:=len0 (most (by decide) hn);refine⟨List.forall_mem_cons.2 ⟨.mk (.imp ht) Ti,hl⟩,.mk 2 t 0 []::a,b,rfl,fun h=>(by cases h),List.forall_mem_cons.2 ⟨h2,ha⟩,hb⟩
   ·rintro ⟨hl,a,b,e,hda,ha,hb⟩
    rw [List.forall_mem_cons] at hl;cases a with
    | nil=>
     rw [List.nil_append] at e;subst e;exact absurd (hb x (by simp)) (by omega)
    | cons y a=>
     rw [List.cons_append] at e;injection e with e1 e2
     subst e1
     have hdf:d=false:=by cases d with
      | false=>rfl
      | true=>cases hda rfl
     refine⟨⟨hdf,?_⟩,hl.2,a,b,e2,fun h=>(by rw [hdf] at h;cases h),fun y hy=>ha y (by simp [hy]),hb⟩
     obtain⟨k,t,m,q⟩:=x;have hk2:k=2:=h2;subst hk2;have hf:=hl.1.form;cases hf with
     | imp ht=>exact⟨ht,by simp [Nd.nm],by simp [Nd.nm],by simp,.inr (by simp [Nd.kids])⟩
  ·rw [if_neg h2]
   have hd:(d || !decide (x.kd=2))=true:=by simp [h2]
   rw [hd]
   have key:((if x.kd=3 then rJ x else (bu (decide (x.kd=4))).then (mY x)).1=true)↔fC x∧(x.kd=3∨x.kd=4):=by
    by_cases h3:x.kd=3
    ·rw [if_pos h3,Tj x hx h3]
     exact⟨fun h=>⟨h,.inl h3⟩,fun h=>h.1⟩
    ·rw [if_neg h3,aX,bK,decide_eq_true_eq]
     constructor
     ·rintro ⟨h4,h5⟩;exact⟨(vO x hx h4).1 h5,.inr h4⟩
     ·rintro ⟨h5,h6⟩
      have h4:=h6.resolve_left h3;exact⟨h4,(vO x hx h4).2 h5⟩
   rw [key];constructor
   ·rintro ⟨⟨h5,h6⟩,hl,a,b,rfl,hda,ha,hb⟩
    obtain rfl:=hda rfl;exact⟨List.forall_mem_cons.2 ⟨h5,hl⟩,[],x::b,rfl,fun _=>rfl,Ti,List.forall_mem_cons.2 ⟨h6,hb⟩⟩
   ·rintro ⟨hl,a,b,e,hda,ha,hb⟩
    rw [List.forall_mem_cons] at hl;cases a with
    | cons y a=>
     rw [List.cons_append] at e;injection e with e1 e2
     subst e1;exact absurd (ha x (by simp)) h2
    | nil=>
     rw [List.nil_append] at e;subst e;rw [List.forall_mem_cons] at hb;exact⟨⟨hl.1,hb.1⟩,hl.2,[],r,rfl,fun _=>rfl,Ti,hb.2⟩
theorem GR (x:Nd) (hr:tN x):(nX x).1=true↔fC x∧x.kd=1:=by
 obtain⟨k,t,m,l⟩:=x;have hk:=hr.kids;unfold nX;simp only [aX,bK,cH,true_and,jC,decide_eq_true_eq,KJ l false hk];constructor
 ·rintro ⟨rfl,⟨ht,h0,h1,-⟩,hl,a,b,rfl,-,ha,hb⟩
  obtain rfl:m=0:=by omega
  exact⟨.mk (.module ht ha hb) hl,rfl⟩
 ·rintro ⟨hX,h1⟩
  have hk1:k=1:=h1;subst hk1;have iI:=hX.kids;have hf:=hX.form;cases hf with
  | @module _ a b ht ha hb=>exact⟨rfl,⟨ht,by decide,by decide,by omega,.inl (by decide)⟩,iI,a,b,rfl,fun h=>(by cases h),ha,hb⟩
end prt
end Go.Proofs.YtpcihajmcejliacGreatDoor
