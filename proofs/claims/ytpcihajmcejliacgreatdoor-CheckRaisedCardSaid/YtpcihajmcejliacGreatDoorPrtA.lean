/- The words that are printed are tokens; what scanning them gives, one behind the other with a blank between. The printed words are read as the node. -/
import Derived.Test.YtpcihajmcejliacGreatDoorPrtF
namespace Go.Proofs.YtpcihajmcejliacGreatDoor
open Go.RowKit
def sW (w:ByteArray):Int:=(tokF w.data.toList).1
def su (l:List UInt8):Prop:=(tokF l).2=(l.length,0)
instance (l:List UInt8):Decidable (su l):=inferInstanceAs (Decidable ((tokF l).2=(l.length,0)))
def qA (w:ByteArray):Prop:=su w.data.toList
instance (w:ByteArray):Decidable (qA w):=inferInstanceAs (Decidable (su w.data.toList))
namespace prt
open bH
theorem Iw {l:List UInt8} (h:kT l=true):tokF l=(1,l.length,0):=by
 simp only [kT,Bool.and_eq_true,decide_eq_true_eq] at h;obtain⟨⟨h1,h2⟩,h3⟩:=h;cases l with
 | nil=>simp [headB] at h1
 | cons c r=>
  simp only [headB] at h1;have hr:runN eM (c::r)=(c::r).length:=(name.xU _ _).2 h3;simp only [tokF,h1,if_true,hr];rw [if_neg (by omega)]
theorem D9 {t:ByteArray} (h:nameB t.data.toList=true):kT t.data.toList=true:=by
 unfold nameB at h;simp only [Bool.and_eq_true] at h;exact h.1
theorem Ea {t:ByteArray} (h:nameB t.data.toList=true):sW t=1:=by
 unfold sW;rw [Iw (D9 h)]
theorem vZ {t:ByteArray} (h:nameB t.data.toList=true):qA t:=by
 unfold qA su;rw [Iw (D9 h)]
theorem L8 {d:Nat} (h:d<10):(UInt8.ofNat (48+d)).toNat=48+d:=by
 rw [UInt8.toNat_ofNat'];exact Nat.mod_eq_of_lt (by omega)
theorem FC (l:List UInt8) (c:UInt8):decFrom 0 (l ++ [c])=decFrom 0 l*10+(c.toNat-48):=by
 unfold decFrom;rw [List.foldl_append];simp only [List.foldl_cons,List.foldl_nil];rw [Hz]
theorem YJ (u:Nat):pI (Lib.decDigits u)=true∧decFrom 0 (Lib.decDigits u)=u∧Lib.decDigits u≠[]∧(u≠0→(Lib.decDigits u).head?≠some 48)∧(u<10→(Lib.decDigits u).length=1):=by
 induction u using Nat.strongRecOn with
 | _ u ih=>
  rw [Lib.decDigits];split
  ·rename_i h
   have hd:=L8 h;refine⟨?_,?_,by simp,fun h0=>?_,fun _=>rfl⟩
   ·rw [mZ,hd];exact⟨by omega,rfl⟩
   ·rw [lG,hd];unfold decFrom;simp
   ·intro e
    simp only [List.head?_cons,Option.some.injEq] at e;have:=congrArg UInt8.toNat e;rw [hd] at this;have h48:(48:UInt8).toNat=48:=rfl;omega
  ·rename_i h
   obtain⟨h1,h2,h3,h4,-⟩:=ih (u / 10) (by omega);have hd:=L8 (d:=u % 10) (by omega);refine⟨?_,?_,by simp,fun _=>?_,fun h'=>absurd h' h⟩
   ·unfold pI at h1 ⊢
    rw [List.all_append,h1,Bool.true_and];have:pI [UInt8.ofNat (48+u % 10)]=true:=by rw [mZ,hd];exact⟨by omega,rfl⟩
    exact this
   ·rw [FC,h2,hd];omega
   ·rw [List.head?_append]
    cases hh:(Lib.decDigits (u / 10)).head? with
    | none=>exact absurd (List.head?_eq_none_iff.1 hh) h3
    | some c=>
     rw [hh] at h4;exact h4 (by omega)
theorem O0 {l:List UInt8} (h:pI l=true):l.all (fun c=>eM c.toNat)=true:=by
 unfold pI at h;rw [List.all_eq_true] at h ⊢;intro x hx;unfold eM;rw [h x hx];simp
theorem FD {m:Int} (h0:0≤m) (h1:m<9223372036854775808):tokF (Lib.itoa m)=(2,(Lib.itoa m).length,0)∧decFrom 0 (Lib.itoa m)=m.toNat:=by
 have e:Lib.itoa m=Lib.decDigits m.toNat:=by unfold Lib.itoa;rw [if_neg (by omega)]
 rw [e];obtain⟨d1,d2,d3,d4,d5⟩:=YJ m.toNat;refine⟨?_,d2⟩
 have hn:iK (Lib.decDigits m.toNat)=0:=by
  unfold iK;rw [if_neg (by rw [d1];decide),if_neg ?_,if_neg (by omega)];rintro ⟨h3,h4⟩;rcases Nat.lt_or_ge m.toNat 10 with h5|h5
  ·rw [d5 h5] at h3;omega
  ·exact d4 (by omega) h4
 cases hl:Lib.decDigits m.toNat with
 | nil=>exact absurd hl d3
 | cons c r=>
  rw [hl] at d1 hn;have hr:runN eM (c::r)=(c::r).length:=(name.xU _ _).2 (O0 d1);have hc:=(mZ c r).1 d1
  have hl:iU c.toNat=false:=by
   unfold iU;rw [decide_eq_false_iff_not];omega
  have hd:jy c.toNat=true:=(xg c).2 hc.1;simp only [tokF,hl,hd,if_true,Bool.false_eq_true,if_false,hr,List.take_length,hn]
theorem SE {m:Int} (h0:0≤m) (h1:m<9223372036854775808):qA (xm m):=by
 unfold qA su xm;rw [(FD h0 h1).1]
theorem AZ {m:Int} (h0:0≤m) (h1:m<9223372036854775808):sW (xm m)=2:=by
 unfold sW xm;rw [(FD h0 h1).1]
theorem LC {m:Int} (h0:0≤m) (h1:m<9223372036854775808):valOf (xm m)=m:=by
 unfold valOf xm;rw [(FD h0 h1).2];omega
def gy (p:PO):Prop:=∀ w∈p.2,qA w
theorem aP {a b:PO} (ha:gy a) (hb:gy b):gy (a.then b):=by
 unfold PO.then
 split
 ·intro w hw
  rcases List.mem_append.1 hw with h|h
  ·exact ha w h
  ·exact hb w h
 ·exact ha
theorem dn {b:Bool} {p:PO} (h:b=true→gy p):gy ((bu b).then p):=by
 cases b with
 | false=>intro w hw;simp [PO.then,bu] at hw
 | true=>exact aP (fun w hw=>by simp [bu] at hw) (h rfl)
theorem lX:gy (ah []):=fun w hw=>by simp [ah] at hw
theorem dD {s:ByteArray} (h:qA s):gy (ah [s]):=fun w hw=>by
 obtain rfl:w=s:=by simpa [ah] using hw
 exact h
theorem SG {s t:ByteArray} (h:qA s) (h2:qA t):gy (ah [s,t]):=fun w hw=>by
 have hw2:w=s∨w=t:=by simpa [ah] using hw
 rcases hw2 with rfl|rfl
 ·exact h
 ·exact h2
theorem um {s t r:ByteArray} (h:qA s) (h2:qA t) (h3:qA r):gy (ah [s,t,r]):=fun w hw=>by
 have hw2:w=s∨w=t∨w=r:=by simpa [ah] using hw
 rcases hw2 with rfl|rfl|rfl
 ·exact h
 ·exact h2
 ·exact h3
theorem oI {t:ByteArray} {m:Int} {n:Nat} {a b c:Int} (h:eH t m n a b c=true):qA t:=by
 unfold eH at h;simp only [Bool.and_eq_true] at h;exact vZ h.1
theorem sZ (b:Bool):gy (ah [jh b]):=dD (by cases b<;>decide)
theorem Iy (m:Int):gy (ah (rK m)):=by
 unfold rK;split
 ·exact dD (by decide)
 ·exact lX
theorem BQ (t:ByteArray) (m:Int) (n:Nat) (a b:Int):gy (gG t m n a b):=by
 unfold gG;refine dn fun h=>?_
 unfold qB at h;simp only [Bool.and_eq_true,Bool.or_eq_true,Bool.not_eq_true'] at h;obtain⟨⟨h1,h2⟩,-⟩:=h;unfold jA;cases hc:(lQ t).2.2 with
 | false=>exact dD (vZ h1)
 | true=>
  rw [hc] at h2;exact um (vZ h1) (by decide) (vZ (by simpa using h2))
theorem O1 {m:Int} (h:0≤(dW m).2):qA (dW m).1:=by
 unfold dW at h ⊢
 repeat' split
 all_goals first|decide|(exfalso;simp_all)
theorem O3 {b:Bool} {p:PO} (h:gy p):gy (oq b p):=by
 unfold oq;split
 ·intro w hw
  have hw2:w=dh∨w∈p.2∨w=aV:=by simpa using hw
  rcases hw2 with rfl|h2|rfl
  ·decide
  ·exact h w h2
  ·decide
 ·exact h
theorem jT {ks:List PO} (h:∀ p∈ks,gy p) (j:Nat):gy (bF ks j):=by
 unfold bF;rw [List.getD_eq_getElem?_getD];cases hj:ks[j]? with
 | none=>exact lX
 | some p=>exact h p (List.mem_of_getElem? hj)
theorem Iz:∀ {ks:List PO} (_:∀ p∈ks,gy p) (f:Bool),gy (oJ ks f)
 | [],_,_=>lX
 | a::r,h,f=>by
  rw [oJ];refine aP ?_ (aP (h a (List.mem_cons_self ..)) (Iz (fun p hp=>h p (List.mem_cons_of_mem _ hp)) false))
  split
  ·exact lX
  ·exact dD (by decide)
theorem BR:∀ {ks:List PO} (_:∀ p∈ks,gy p),gy (mG ks)
 | [],_=>lX
 | a::r,h=>by
  rw [mG];exact aP (h a (List.mem_cons_self ..)) (BR (fun p hp=>h p (List.mem_cons_of_mem _ hp)))
def Xg (m:Int):Prop:=0≤m→qA (xm m)
theorem SH {k:Int} {t:ByteArray} {m:Int} {n:Nat} {least:Int} {ks:List PO} (hm:Xg m) (h:∀ p∈ks,gy p):gy (pV k t m n least ks):=by
 unfold pV;split
 ·exact dn fun _=>dn fun hs=>O3 (aP (jT h 0) (aP (dD (O1 (of_decide_eq_true hs))) (jT h 1)))
 ·split
  ·exact dn fun _=>aP (dD (by split<;>decide)) (jT h 0)
  ·split
   ·refine dn fun hb=>dD (hm ?_)
    simp only [Bool.and_eq_true,decide_eq_true_eq] at hb;exact hb.1.2
   ·split
    ·exact aP (BQ _ _ _ _ _) (aP (dD (by decide)) (aP (jT h 0) (dD (by decide))))
    ·split
     ·exact aP (BQ _ _ _ _ _) (aP (dD (by decide)) (aP (Iz h true) (dD (by decide))))
     ·exact dn fun _=>BQ _ _ _ _ _
theorem O4 {k:Int} {t:ByteArray} {m kd:Int} {ks:List (PO×PO)} (h:∀ p∈ks,gy p.1∧gy p.2):gy (nV k t m kd ks):=by
 have h1:∀ p∈ks.map Prod.fst,gy p:=fun p hp=>by obtain⟨q,hq,rfl⟩:=List.mem_map.1 hp;exact(h q hq).1
 have h2:∀ p∈ks.map Prod.snd,gy p:=fun p hp=>by obtain⟨q,hq,rfl⟩:=List.mem_map.1 hp;exact(h q hq).2
 have hs:gy (ah [aW]):=dD (by decide);unfold nV;split
 ·refine dn fun _=>aP (dD (by split<;>decide)) (aP (dD (by decide)) (aP (jT h1 0) (aP (dD (by decide)) (aP (jT h2 1) ?_))))
  split
  ·exact aP (dD (by decide)) (jT h2 2)
  ·exact lX
 ·split
  ·exact dn fun hp=>aP (sZ _) (aP (SG (oI hp) (by decide)) (aP (jT h1 0) hs))
  ·split
   ·exact dn fun _=>dn fun _=>aP (jT h1 0) (aP (dD (by decide)) (aP (jT h1 1) hs))
   ·split
    ·exact dn fun _=>dn fun _=>aP (dD (by decide)) (aP (jT h1 0) hs)
    ·split
     ·exact dn fun _=>dn fun _=>aP (dD (by split<;>decide)) (aP (sZ _) (aP (jT h1 0) hs))
     ·exact dn fun _=>dn fun _=>aP (dD (by decide)) (aP (jT h1 0) hs)
theorem O5 {k:Int} {t:ByteArray} {m:Int} {ks:List PO} (h:∀ p∈ks,gy p):gy (zS k t m ks):=by
 unfold zS;exact dn fun _=>dn fun _=>aP (dD (by decide)) (aP (BR h) (dD (by decide)))
theorem xY {k m:Int} {t:ByteArray} {l:List Nd} (h:tN (.mk k t m l)):Xg m∧∀ y∈l,tN y:=⟨fun h0=>SE h0 h.num,h.kids⟩
theorem IA:∀ (x:Nd) (least:Int),tN x→gy (fJ least x):=by
 refine gz fun k t m l ih least hv=>?_
 obtain⟨hm,hk⟩:=xY hv;rw [fJ]
 have hK:∀ (r:List Nd) (j:Nat),(∀ x∈r,x∈l)→∀ p∈xZ k m r j,gy p:=by
  intro r;induction r with
  | nil=>intro j _ p hp;simp [xZ] at hp
  | cons x r ih2=>
   intro j hr p hp;rw [xZ] at hp;rcases List.mem_cons.1 hp with rfl|hp
   ·exact ih x (hr x (List.mem_cons_self ..)) _ (hk x (hr x (List.mem_cons_self ..)))
   ·exact ih2 (j+1) (fun y hy=>hr y (List.mem_cons_of_mem _ hy)) p hp
 exact SH hm (hK l 0 fun x hx=>hx)
theorem SI:∀ (x:Nd),tN x→gy (rZ x)∧gy (qH x):=by
 refine gz fun k t m l ih hv=>?_
 obtain⟨hm,hk⟩:=xY hv
 have hK:∀ (r:List Nd),(∀ x∈r,x∈l)→(∀ p∈vK r,gy p.1∧gy p.2)∧∀ p∈Aj r,gy p:=by
  intro r;induction r with
  | nil=>intro _;exact⟨fun p hp=>by simp [vK] at hp,fun p hp=>by simp [Aj] at hp⟩
  | cons x r ih2=>
   intro hr;have hx:=hr x (List.mem_cons_self ..);obtain⟨i1,i2⟩:=ih2 fun y hy=>hr y (List.mem_cons_of_mem _ hy)
   rw [vK,Aj];refine⟨fun p hp=>?_,fun p hp=>?_⟩
   ·rcases List.mem_cons.1 hp with rfl|hp
    ·exact⟨IA x 0 (hk x hx),(ih x hx (hk x hx)).2⟩
    ·exact i1 p hp
   ·rcases List.mem_cons.1 hp with rfl|hp
    ·exact(ih x hx (hk x hx)).1
    ·exact i2 p hp
 obtain⟨h1,h2⟩:=hK l fun x hx=>hx
 rw [rZ,qH];exact⟨O4 h1,O5 h2⟩
theorem SJ (x:Nd) (h:tN x):gy (rJ x):=by
 obtain⟨k,t,m,l⟩:=x;obtain⟨-,hk⟩:=xY h;unfold rJ;refine dn fun hn=>aP (Iy m) (aP (sZ _) (aP (dD (oI hn)) (aP (BR fun p hp=>?_) (dD (by decide)))))
 obtain⟨x,hx,rfl⟩:=List.mem_map.1 hp;exact dn fun _=>aP (dD (by decide)) (aP (IA x 0 (hk x hx)) (dD (by decide)))
theorem Eb:∀ (l:List Nd) (i:Nat),gy (kS l i)
 | [],_=>lX
 | x::r,i=>by
  rw [kS];refine aP ?_ (Eb r (i+1))
  unfold zT;refine dn fun _=>aP ?_ (dn fun hn=>aP (sZ _) (dD (oI hn)))
  split
  ·exact dD (by decide)
  ·exact lX
theorem O6 (x:Nd) (h:tN x):gy (mY x):=by
 obtain⟨k,t,m,l⟩:=x;obtain⟨-,hk⟩:=xY h;unfold mY;refine dn fun hn=>aP (Iy m) (aP (um (by decide) (oI hn) (by decide)) (aP (Eb _ 0) (aP (dD (by decide)) (aP (sZ _) (aP ?_ ?_)))))
 ·split
  ·exact aP (dD (by decide)) (sZ _)
  ·exact lX
 ·obtain⟨-,-,hN,-⟩:=qV hn
  rcases List.eq_nil_or_concat l with e|⟨ps,bb,e⟩
  ·rw [e] at hN;simp at hN
  ·rw [List.concat_eq_append] at e
   subst e;rw [List.getLastD_concat];exact(SI bb (hk bb (by simp))).2
theorem BU:∀ (l:List Nd) (d:Bool),(∀ y∈l,tN y)→gy (iP l d)
 | [],_,_=>lX
 | x::r,d,h=>by
  rw [iP];refine aP ?_ (BU r _ fun y hy=>h y (List.mem_cons_of_mem _ hy))
  have hx:=h x (List.mem_cons_self ..);unfold xI;split
  ·exact dn fun _=>dn fun hn=>um (by decide) (oI hn) (by decide)
  ·split
   ·exact SJ x hx
   ·exact dn fun _=>O6 x hx
theorem Qx (x:Nd) (h:tN x):gy (nX x):=by
 obtain⟨k,t,m,l⟩:=x;obtain⟨-,hk⟩:=xY h;unfold nX;exact dn fun _=>dn fun hn=>aP (um (by decide) (oI hn) (by decide)) (BU l false hk)
def gQ:List (List UInt8)→List UInt8
 | []=>[]
 | [x]=>x
 | x::y::r=>x++32::gQ (y::r)
theorem JF (l:List (List UInt8)):Lib.join l [32]=gQ l:=by
 induction l with
 | nil=>rfl
 | cons x r ih=>
  cases r with
  | nil=>rw [Lib.join_one];rfl
  | cons y r=>
   rw [gQ,←ih,Lib.join_cons,Lib.join_cons];simp [Lib.joinTail]
def uq:Nat→List (List UInt8)→List Tok
 | _,[]=>[]
 | p,x::r=>((tokF x).1,p,x.length)::uq (p+x.length+1) r
theorem x_ {x:List UInt8} (h:su x):1≤x.length:=by
 have h2:(tokF x).2=(x.length,0):=h;have:=Fz x (by rw [h2]);rw [h2] at this;exact this
theorem FG {x:List UInt8} (h:su x) (r:List UInt8):tokF (x++32::r)=((tokF x).1,x.length,0)∧fD false (x++32::r)=0:=by
 have h2:(tokF x).2=(x.length,0):=h;have hg:again.Good x ((tokF x).1,0,x.length):=⟨by simp only [List.drop_zero];rw [←h2],by simp,x_ h⟩;have h3:=again.Ku x _ hg r;have e:again.text x ((tokF x).1,0,x.length)=x:=by simp [again.text]
 rw [e] at h3;exact⟨h3.1,h3.2.1⟩
theorem O7 {x:List UInt8} (h:su x):fD false x=0:=by
 have h1:=(FG h []).2;cases x with
 | nil=>exact absurd (x_ h) (by simp)
 | cons c r=>
  simp only [List.cons_append,fD] at h1 ⊢
  repeat' split
  all_goals first|rfl|(simp_all;done)|omega
theorem BV (l:List (List UInt8)) (h:∀ x∈l,su x):fD false (gQ l)=0:=by
 rcases l with _|⟨x,_|⟨y,r⟩⟩
 ·rfl
 ·exact O7 (h x (by simp))
 ·exact(FG (h x (by simp)) _).2
theorem KA (J:List UInt8):∀ (l:List (List UInt8)) (f p:Nat) (acc:List Tok),(∀ x∈l,su x)→J.drop p=gQ l→l.length<f→iw f J p acc=(acc++uq p l,0,0):=by
 intro l;induction l with
 | nil=>
  intro f p acc _ hJ hf;obtain⟨f,rfl⟩:∃ g,f=g+1:=⟨f-1,by simp at hf;omega⟩
  have:¬ p<J.length:=by
   intro h;rw [List.drop_eq_getElem_cons h] at hJ;cases hJ
  rw [iw,if_neg this];simp [uq]
 | cons x r ih=>
  intro f p acc hg hJ hf;obtain⟨f,rfl⟩:∃ g,f=g+1:=⟨f-1,by simp at hf;omega⟩;have hx:=hg x (by simp);have hpos:=x_ hx
  have hp:p<J.length:=by
   rcases Nat.lt_or_ge p J.length with h|h
   ·exact h
   ·rw [List.drop_eq_nil_of_le h] at hJ
    have h9:1≤(gQ (x::r)).length:=by
     cases r with
     | nil=>exact hpos
     | cons y r=>rw [gQ,List.length_append];omega
    rw [←hJ] at h9;simp at h9
  have ht:tokF (gQ (x::r))=((tokF x).1,x.length,0):=by
   cases r with
   | nil=>
    have h2:(tokF x).2=(x.length,0):=hx;show tokF x=_
    rw [←h2]
   | cons y r=>exact(FG hx _).1
  have hd:J.drop (p+x.length)=(gQ (x::r)).drop x.length:=by rw [←List.drop_drop,hJ]
  have hrest:fD false (J.drop (p+x.length))≤1∧(r≠[]→fD false (J.drop (p+x.length))=1∧J.drop (p+x.length+1)=gQ r)∧(r=[]→fD false (J.drop (p+x.length))=0∧J.drop (p+x.length)=[]):=by
   rw [hd];cases r with
   | nil=>
    have:(gQ [x]).drop x.length=[]:=List.drop_eq_nil_of_le (Nat.le_refl _);rw [this];exact⟨by simp [fD],fun h=>absurd rfl h,fun _=>⟨rfl,rfl⟩⟩
   | cons y r=>
    have e:(gQ (x::y::r)).drop x.length=32::gQ (y::r):=by rw [gQ,List.drop_left]
    have hs:fD false (32::gQ (y::r))=1:=by
     have:=BV (y::r) fun z hz=>hg z (by simp at hz ⊢;exact .inr hz)
     simp [fD,this]
    rw [e,hs];refine⟨Nat.le_refl _,fun _=>⟨rfl,?_⟩,fun h=>by cases h⟩
    rw [←List.drop_drop,hd,e];rfl
  rw [iw,if_pos hp,hJ,ht];simp only [if_true];cases r with
  | nil=>
   obtain⟨h1,h2⟩:=hrest.2.2 rfl;rw [h1];have h3:J.drop (p+x.length+0)=gQ []:=by rw [Nat.add_zero,h2];rfl
   have:=ih f (p+x.length+0) (acc ++ [((tokF x).1,p,x.length)]) (fun z hz=>by cases hz) h3 (by simp at hf ⊢;omega);rw [this];simp [uq]
  | cons y r=>
   obtain⟨h1,h2⟩:=hrest.2.1 (by simp);rw [h1,ih f (p+x.length+1) (acc ++ [((tokF x).1,p,x.length)]) (fun z hz=>hg z (by simp at hz ⊢;exact .inr hz)) h2 (by simp at hf ⊢;omega)];simp [uq]
theorem O8:∀ (l:List (List UInt8)),(∀ x∈l,su x)→l.length≤(gQ l).length:=by
 intro l;induction l with
 | nil=>intro _;simp
 | cons x r ih=>
  intro h;have hp:=x_ (h x (by simp));have hi:=ih fun z hz=>h z (by simp [hz])
  cases r with
  | nil=>simpa [gQ] using hp
  | cons y r=>
   rw [gQ,List.length_append,List.length_cons (a:=(32:UInt8)),List.length_cons (a:=x)];omega
theorem GU (l:List (List UInt8)) (h:∀ x∈l,su x) (hn:(gQ l).length≤3000):jY (gQ l)=(uq 0 l,0,0):=by
 rw [jY,if_neg (by omega),BV l h];have:=KA (gQ l) l ((gQ l).length+1) 0 [] h rfl (by have:=O8 l h;omega);simpa using this
def Fits:List ByteArray→List Tk→Prop
 | [],[]=>True
 | w::ws,t::ts=>(t.text=w∧t.kind=sW w)∧Fits ws ts
 | _,_=>False
theorem Fits.cons {w:ByteArray} {ws:List ByteArray} {l:List Tk} (h:Fits (w::ws) l):∃ t ts,l=t::ts∧(t.text=w∧t.kind=sW w)∧Fits ws ts:=by
 cases l with
 | nil=>exact h.elim
 | cons t ts=>exact⟨t,ts,rfl,h⟩
theorem Fits.nil {l:List Tk} (h:Fits [] l):l=[]:=by
 cases l with
 | nil=>rfl
 | cons t ts=>exact h.elim
theorem Fits.app {a b:List ByteArray}:∀ {l:List Tk},Fits (a++b) l→∃ l1 l2,l=l1++l2∧Fits a l1∧Fits b l2:=by
 induction a with
 | nil=>intro l h;exact⟨[],l,rfl,trivial,h⟩
 | cons w ws ih=>
  intro l h;obtain⟨t,ts,rfl,h1,h2⟩:=Fits.cons h;obtain⟨l1,l2,rfl,h3,h4⟩:=ih h2;exact⟨t::l1,l2,rfl,⟨h1,h3⟩,h4⟩
theorem IB (x:List UInt8) (r:List (List UInt8)):∃ q,gQ (x::r)=x++q∧(r≠[]→q=32::gQ r):=by
 cases r with
 | nil=>exact⟨[],by simp [gQ],fun h=>absurd rfl h⟩
 | cons y r=>exact⟨_,rfl,fun _=>rfl⟩
theorem GV (s:ByteArray):∀ (ws:List ByteArray) (p:Nat),s.data.toList.drop p=gQ (ws.map fun w=>w.data.toList)→Fits ws (n_ s (uq p (ws.map fun w=>w.data.toList))):=by
 intro ws;induction ws with
 | nil=>intro p _;trivial
 | cons w r ih=>
  intro p h;rw [List.map_cons] at h;obtain⟨q,h1,h2⟩:=IB w.data.toList (r.map fun w=>w.data.toList);rw [h1] at h;refine⟨⟨SK ?_,rfl⟩,?_⟩
  ·show (s.extract p (p+w.data.toList.length)).data.toList=_
   rw [lex.kD,h,List.take_left]
  ·cases r with
   | nil=>trivial
   | cons y r=>
    refine ih _ ?_
    have e:=h2 (by simp);rw [show p+w.data.toList.length+1=p+(w.data.toList.length+1) by omega,←List.drop_drop,h,e];rw [show w.data.toList.length+1=w.data.toList.length+1 from rfl,←List.drop_drop,List.drop_left];rfl
end prt
end Go.Proofs.YtpcihajmcejliacGreatDoor
namespace Go.Proofs.YtpcihajmcejliacGreatDoor
open Go.RowKit
namespace prt
open bH
def L_ {α : Type} (a b:Out α):Prop:=a=.out∨a=b
theorem L_.refl {α : Type} (a:Out α):L_ a a:=.inr rfl
theorem L_.bind {α β : Type} {a b:Out α} {f g:α→List Tk→Out β} (h:L_ a b) (hf:∀ x l,L_ (f x l) (g x l)):L_ (a.bind f) (b.bind g):=by
 rcases h with rfl|rfl
 ·exact .inl rfl
 ·cases a with
  | out=>exact .inl rfl
  | bad l=>exact .inr rfl
  | got x l=>exact hf x l
theorem L_.ite {α : Type} {c:Prop} [Decidable c] {a b a2 b2:Out α} (h:L_ a a2) (h2:L_ b b2):L_ (if c then a else b) (if c then a2 else b2):=by
 split
 ·exact h
 ·exact h2
theorem SL:∀ (n:Nat) (X:NT) (l:List Tk),L_ (bn n X l) (bn (n+1) X l):=by
 intro n;induction n with
 | zero=>intro X l;exact .inl (by cases X<;>rfl)
 | succ n ih=>
  intro X l;cases X
  all_goals
   rw [bn,bn]
   repeat' (first|exact ih _ _|exact L_.refl _|refine L_.bind ?_ fun _ _=>?_|refine L_.ite ?_ ?_)
theorem SN {n m:Nat} (h:n≤m) {X:NT} {l:List Tk} (hn:bn n X l≠.out):bn m X l=bn n X l:=by
 induction m with
 | zero=>
  obtain rfl:n=0:=by omega
  rfl
 | succ m ih=>
  rcases Nat.lt_or_ge m n with h1|h1
  ·obtain rfl:n=m+1:=by omega
   rfl
  ·have e:=ih h1
   rcases SL m X l with h2|h2
   ·exact absurd (e▸h2) hn
   ·rw [←h2,e]
def Rd (X:NT) (l:List Tk) (o:Out Nd):Prop:=∃ n,∀ m,n≤m→bn m X l=o
theorem Rd.at {X:NT} {l:List Tk} {o:Out Nd} (h:Rd X l o) {n:Nat} (hn:bn n X l≠.out):bn n X l=o:=by
 obtain⟨k,hk⟩:=h;rw [←SN (Nat.le_max_left n k) hn];exact hk _ (Nat.le_max_right n k)
theorem WC {X:NT} {l:List Tk} {o:Out Nd} (h:∀ m,bn (m+1) X l=o):Rd X l o:=
 ⟨1,fun m hm=>by obtain⟨q,rfl⟩:∃ q,m=q+1:=⟨m-1,by omega⟩;exact h q⟩
theorem zB {X Y:NT} {l l2:List Tk} {o o2:Out Nd} (h2:Rd Y l2 o2) (h:∀ m,bn m Y l2=o2→bn (m+1) X l=o):Rd X l o:=by
 obtain⟨n,hn⟩:=h2;exact⟨n+1,fun m hm=>by obtain⟨q,rfl⟩:∃ q,m=q+1:=⟨m-1,by omega⟩;exact h q (hn q (by omega))⟩
theorem WE {X Y Z:NT} {l l2 l3:List Tk} {o o2 o3:Out Nd} (h2:Rd Y l2 o2) (h3:Rd Z l3 o3) (h:∀ m,bn m Y l2=o2→bn m Z l3=o3→bn (m+1) X l=o):Rd X l o:=by
 obtain⟨n,hn⟩:=h2;obtain⟨k,hk⟩:=h3;exact⟨n+k+1,fun m hm=>by obtain⟨q,rfl⟩:∃ q,m=q+1:=⟨m-1,by omega⟩;exact h q (hn q (by omega)) (hk q (by omega))⟩
theorem rd3 {X Y Z V:NT} {l l2 l3 l4:List Tk} {o o2 o3 o4:Out Nd} (h2:Rd Y l2 o2) (h3:Rd Z l3 o3) (h4:Rd V l4 o4) (h:∀ m,bn m Y l2=o2→bn m Z l3=o3→bn m V l4=o4→bn (m+1) X l=o):Rd X l o:=by
 obtain⟨n,hn⟩:=h2;obtain⟨k,hk⟩:=h3;obtain⟨j,hj⟩:=h4;exact⟨n+k+j+1,fun m hm=>by obtain⟨q,rfl⟩:∃ q,m=q+1:=⟨m-1,by omega⟩;exact h q (hn q (by omega)) (hk q (by omega)) (hj q (by omega))⟩
theorem Mc {l:List Tk} {o:Out Nd} (h:Rd (.bound 0) l o):Rd .expr l o:=zB h fun m h=>by rw [bn];exact h
theorem YK {l:List Tk} {o:Out Nd} (h:Rd .unary l o):Rd (.bound 3) l o:=zB h fun m h=>by rw [bn,if_pos (by decide)];exact h
theorem IC {k:Nat} {l r:List Tk} {x:Nd} {o:Out Nd} (hk:k≤2) (h:Rd (.bound (k+1)) l (.got x r)) (h2:Rd (.loop k x) r o):Rd (.bound k) l o:=
 WE h h2 fun m a b=>by rw [bn,if_neg (by omega),a];exact b
theorem Md {k:Nat} {l:List Tk} {x:Nd} (h:¬ (kindOf l=3∧(lI (textOf l)).2=k)):Rd (.loop k x) l (.got x l):=WC fun m=>by rw [bn,if_neg h]
theorem YL {t:Tk} {l r:List Tk} {x y:Nd} {m:Int} (hk:t.kind=3) (ho:lI t.text=(m,0)) (h:Rd (.bound 1) l (.got y r)):Rd (.loop 0 x) (t::l) (.got (.mk 19 aF m [x,y]) r):=
 zB h fun q a=>by
  have e:(lI (textOf (t::l)))=(m,0):=ho;rw [bn,e,if_pos ⟨hk,rfl⟩];show (bn q (.bound 1) l).bind _=_
  rw [a];rfl
theorem ah0 {k:Nat} {t:Tk} {l r:List Tk} {x y:Nd} {m:Int} {o:Out Nd} (h0:k≠0) (hk:t.kind=3) (ho:lI t.text=(m,(k:Int))) (h:Rd (.bound (k+1)) l (.got y r)) (h2:Rd (.loop k (.mk 19 aF m [x,y])) r o):Rd (.loop k x) (t::l) o:=
 WE h h2 fun q a b=>by
  have e:(lI (textOf (t::l)))=(m,(k:Int)):=ho;rw [bn,e,if_pos ⟨hk,rfl⟩];show (bn q (.bound (k+1)) l).bind _=_
  rw [a];show (if k=0 then _ else _)=_
  rw [if_neg h0];exact b
def Is (t:Tk) (w:ByteArray):Prop:=t.text=w∧t.kind=sW w
theorem iG {t:Tk} {r:List Tk} {w:ByteArray} (h:Is t w) (hk:sW w≠2:=by decide):eY (t::r) [w]=true:=by
 obtain⟨h1,h2⟩:=h;simp [eY,h1,h2,hk]
theorem dS {t:Tk} {r:List Tk} {w v:ByteArray} (h:Is t w) (hn:w≠v:=by decide):eY (t::r) [v]=false:=by
 obtain⟨h1,h2⟩:=h;simp [eY,h1,hn]
theorem KC {t:Tk} {r:List Tk} {w:ByteArray} (h:Is t w) (hk:sW w=2) (ws:List ByteArray):eY (t::r) ws=false:=by
 obtain⟨h1,h2⟩:=h;simp [eY,h2,hk]
theorem iH {t:Tk} {r:List Tk} {w:ByteArray} (h:Is t w) (hk:sW w≠2:=by decide):dU w (t::r)=.got () r:=by
 unfold dU;rw [if_pos (iG h hk)];rfl
theorem kR {w v:ByteArray} (h:nameB w.data.toList=true) (hv:nameB v.data.toList=false:=by decide):w≠v:=by
 rintro rfl;rw [h] at hv;cases hv
theorem kW {t:Tk} {r:List Tk} {w:ByteArray} (h:Is t w) (hw:jr w):fP (t::r)=.got w r:=by
 obtain⟨h1,h2⟩:=h;have hw2:nameB w.data.toList=true:=hw;simp only [fP];rw [if_pos ⟨by rw [h2,Ea hw2],by rw [h1];unfold nameB at hw2;simp only [Bool.and_eq_true,Bool.not_eq_true'] at hw2;exact hw2.2⟩,h1]
theorem vM {t:ByteArray} (ht:lu t) {l r:List Tk} (h:Fits (jA t) l) (hr:eY r [uO]=false):iO (l++r)=.got t r:=by
 unfold jA at h;rcases xq ht with ⟨h1,e⟩|⟨a,b,ha,hb,rfl,e⟩
 ·rw [e] at h
  obtain⟨t1,l1,rfl,h2,h3⟩:=Fits.cons h;obtain rfl:=Fits.nil h3;unfold iO;rw [List.singleton_append,kW h2 h1];show (if eY r [uO]=true then _ else _)=_
  rw [if_neg (by rw [hr];decide)]
 ·rw [e] at h
  obtain⟨t1,l1,rfl,h2,h3⟩:=Fits.cons h;obtain⟨t2,l2,rfl,h4,h5⟩:=Fits.cons h3;obtain⟨t3,l3,rfl,h6,h7⟩:=Fits.cons h5;obtain rfl:=Fits.nil h7;unfold iO;rw [List.cons_append,kW h2 ha];show (if eY (t2::(t3::r)) [uO]=true then _ else _)=_
  rw [if_pos (iG h4)];show (fP (t3::r)).bind _=_
  rw [kW h6 hb];rfl
theorem kV {t:ByteArray} (ht:lu t):∃ w ws,jA t=w::ws∧jr w:=by
 unfold jA;rcases xq ht with ⟨h1,e⟩|⟨a,b,ha,hb,rfl,e⟩
 ·rw [e];exact⟨_,_,rfl,h1⟩
 ·rw [e];exact⟨_,_,rfl,ha⟩
theorem pz {a b:PO} (h:a.1=true):(a.then b).2=a.2++b.2:=by unfold PO.then;rw [if_pos h]
theorem kJ (l:List ByteArray) (p:PO):((ah l).then p).2=l++p.2:=pz rfl
theorem dZ {b:Bool} (h:b=true) (p:PO):(bu b).then p=p:=by subst h;simp [PO.then,bu]
theorem zg {t:ByteArray} {n:Nat} {a b:Int} (ht:lu t) (h1:a≤(n:Int)) (h2:b<0∨(n:Int)≤b):gG t 0 n a b=(true,jA t):=by
 have h:=oK.2 ⟨ht,rfl,h1,h2⟩;unfold gG at h ⊢;rw [aX,bK] at h;rw [dZ h.1];rfl
theorem Xh (k:Int) (x:Nd):(fJ k (.mk 20 aF 0 [x])).2=pO::(fJ 3 x).2:=by
 simp [fJ,xZ,pV,bF,kO,PO.then,bu,ah,cZ,nH]
theorem Xi (k:Int) (x:Nd):(fJ k (.mk 21 aF 0 [x])).2=Ac::(fJ 3 x).2:=by
 simp [fJ,xZ,pV,bF,kO,PO.then,bu,ah,cZ,nH]
theorem w_num (k:Int) {m:Int} (h:0≤m):(fJ k (.mk 15 aF m [])).2=[xm m]:=by
 simp [fJ,pV,PO.then,bu,ah,h]
theorem EI (k:Int) {t:ByteArray} (ht:lu t):(fJ k (.mk 16 t 0 [])).2=jA t:=by
 have e:gG t 0 ([]:List Nd).length 0 0=(true,jA t):=zg ht (by simp) (.inr (by simp));simp only [fJ,pV];rw [e];simp [PO.then,bu]
theorem EJ (k:Int) {t:ByteArray} {x:Nd} (ht:lu t) (hx:(fJ 0 x).1=true):(fJ k (.mk 17 t 0 [x])).2=jA t++ov::((fJ 0 x).2 ++ [lN]):=by
 have e:gG t 0 [x].length 1 1=(true,jA t):=zg ht (by simp) (.inr (by simp));simp only [fJ,pV];rw [e];simp [PO.then,ah,xZ,bF,kO,hx]
theorem Jw (k:Int) {t:ByteArray} {l:List Nd} (ht:lu t) (hl:∀ y∈l,(fJ 0 y).1=true):(fJ k (.mk 18 t 0 l)).2=jA t++dh::((oJ (l.map (fJ 0)) true).2 ++ [aV]):=by
 have e:gG t 0 l.length 0 (-1)=(true,jA t):=zg ht (by omega) (.inl (by decide));have hc:(oJ (l.map (fJ 0)) true).1=true:=(FH _ _).2 fun p hp=>by obtain⟨y,hy,rfl⟩:=List.mem_map.1 hp;exact hl y hy
 simp only [fJ,pV,BW];rw [e];simp [PO.then,ah,hc]
def zJ (m:Int):Int:=if (dW m).2=0 then 1 else (dW m).2
def opW (m:Int) (x y:Nd):List ByteArray:=(fJ (zJ m) x).2++(dW m).1::(fJ ((dW m).2+1) y).2
theorem ah1 (k:Int) {m:Int} {x y:Nd} (h0:1≤m) (h1:m≤9) (hx:(fJ (zJ m) x).1=true):(fJ k (.mk 19 aF m [x,y])).2=if (dW m).2<k then dh::(opW m x y ++ [aV]) else opW m x y:=by
 have hs:=BZ.2 ⟨h0,h1⟩;have e1:fJ (kO 19 m 0) x=fJ (zJ m) x:=rfl;have e2:fJ (kO 19 m 1) y=fJ ((dW m).2+1) y:=rfl;simp only [fJ,pV,xZ,if_true];rw [dZ (dI.2 ⟨rfl,by decide,by decide,by simp,.inr (by simp)⟩),dZ (by simpa using hs),e1,e2];unfold oq opW;simp only [bF,List.getD_cons_zero,List.getD_cons_succ];by_cases hk:(dW m).2<k
 ·rw [if_pos (by simpa using hk),if_pos hk]
  simp [PO.then,ah,hx]
 ·rw [if_neg (by simpa using hk),if_neg hk]
  simp [PO.then,ah,hx]
structure yS (k:Int) (r:List Tk):Prop where
 dot:eY r [uO]=false
 opn:eY r [dh]=false
 bra:eY r [ov]=false
 op:kindOf r=3→(lI (textOf r)).2<k
theorem yS.mono {k j:Int} {r:List Tk} (h:yS k r) (hj:k≤j):yS j r:=⟨h.dot,h.opn,h.bra,fun e=>by have:=h.op e;omega⟩
theorem gX {t:Tk} {w:ByteArray} (h:Is t w) (hw:w=aV∨w=lN∨w=fL∨w=aW∨w=Ai) (r:List Tk):yS 0 (t::r):=by
 refine⟨dS h ?_,dS h ?_,dS h ?_,fun _=>?_⟩
 ·rcases hw with rfl|rfl|rfl|rfl|rfl<;>decide
 ·rcases hw with rfl|rfl|rfl|rfl|rfl<;>decide
 ·rcases hw with rfl|rfl|rfl|rfl|rfl<;>decide
 ·show (lI t.text).2<0
  rw [h.1];rcases hw with rfl|rfl|rfl|rfl|rfl<;>decide
theorem Ec {m:Int} (h0:1≤m) (h1:m≤9):lI (dW m).1=(m,(dW m).2)∧sW (dW m).1=3∧(dW m).1≠uO∧(dW m).1≠dh∧(dW m).1≠ov∧((dW m).2=0∨(dW m).2=1∨(dW m).2=2):=by
 have h:m=1∨m=2∨m=3∨m=4∨m=5∨m=6∨m=7∨m=8∨m=9:=by omega
 rcases h with rfl|rfl|rfl|rfl|rfl|rfl|rfl|rfl|rfl<;>decide
theorem Me {t:Tk} {m:Int} (h:Is t (dW m).1) (h0:1≤m) (h1:m≤9) {k:Int} (hk:(dW m).2<k) (r:List Tk):yS k (t::r):=by
 obtain⟨h2,h3,h4,h5,h6,-⟩:=Ec h0 h1;refine⟨dS h h4,dS h h5,dS h h6,fun _=>?_⟩
 show (lI t.text).2<k
 rw [h.1,h2];exact hk
structure Cont (k:Nat) (x:Nd) (r:List Tk) (o:Out Nd):Prop where
 fol:yS ((k:Int)+1) r
 mid:k=1∨k=2→Rd (.loop k x) r o
 fin:k=0∨k=3→yS k r∧o=.got x r
theorem qC {k:Nat} {x:Nd} {r:List Tk} (h:yS k r):Cont k x r (.got x r):=
 ⟨h.mono (by omega),fun _=>Md fun ⟨h1,h2⟩=>by have:=h.op h1;omega,fun _=>⟨h,rfl⟩⟩
theorem O9 {k:Nat} (hk:k≤2) {x:Nd} {l r:List Tk} {o:Out Nd} (h:Rd (.bound (k+1)) l (.got x r)) (hc:Cont k x r o):Rd (.bound k) l o:=by
 refine IC hk h ?_
 by_cases h0:k=0
 ·obtain⟨h1,rfl⟩:=hc.fin (.inl h0)
  subst h0;exact Md fun ⟨h2,h3⟩=>by have:=h1.op h2;omega
 ·exact hc.mid (by omega)
theorem lift {x:Nd} {l r:List Tk} {j:Nat} (hj:j≤3) (h:∀ o,Cont j x r o→Rd (.bound j) l o):∀ (d k:Nat) (o:Out Nd),j=k+d→Cont k x r o→Rd (.bound k) l o:=by
 intro d;induction d with
 | zero => intro k o e hc; obtain rfl : j = k := by omega
           exact h o hc
 | succ d ih=>
  intro k o e hc;have hc1:yS ((k+1:Nat):Int) r:=by have:=hc.fol;rw [show ((k+1:Nat):Int)=(k:Int)+1 by omega];exact this
  exact O9 (by omega) (ih (k+1) _ (by omega) (qC hc1)) hc
theorem oL {x:Nd} {l r:List Tk} (h:yS 3 r→Rd .unary l (.got x r)) {k:Nat} (hk:k≤3) {o:Out Nd} (hc:Cont k x r o):Rd (.bound k) l o:=
 lift (Nat.le_refl 3) (fun o hc=>by
  obtain⟨h1,rfl⟩:=hc.fin (.inr rfl);exact YK (h h1)) (3-k) k o (by omega) hc
def Ed (w:ByteArray):Prop:=nameB w.data.toList=true∨sW w=2∨w=pO∨w=Ac∨w=dh
theorem Ed.ne {w v:ByteArray} (h:Ed w) (hn:nameB v.data.toList=false:=by decide) (hk:sW v≠2:=by decide) (h1:v≠pO:=by decide) (h2:v≠Ac:=by decide) (h3:v≠dh:=by decide):w≠v:=by
 rcases h with h|h|rfl|rfl|rfl
 ·exact kR h hn
 ·rintro rfl;exact hk h
 ·exact fun e=>h1 e.symm
 ·exact fun e=>h2 e.symm
 ·exact fun e=>h3 e.symm
theorem Lu:∀ (x:Nd) (k:Int),tN x→fC x→mJ x.kd→∃ w ws,(fJ k x).2=w::ws∧Ed w:=by
 refine gz fun kd t m l ih k hr hX hke=>?_
 have hk:=hr.kids;have iI:=hX.kids;have hf:=hX.form;have ok:∀ y∈l,mJ y.kd→∀ le,(fJ le y).1=true:=fun y hy h le=>(lZ y le (hk y hy)).2 ⟨iI y hy,h⟩
 unfold mJ Nd.kd at hke;cases hf with
 | num h0 h1=>exact⟨_,_,w_num k h0,.inr (.inl (AZ h0 h1))⟩
 | name ht=>
  obtain⟨w,ws,e,hw⟩:=kV ht;exact⟨w,ws,by rw [EI k ht,e],.inl hw⟩
 | @item _ x ht hx=>
  obtain⟨w,ws,e,hw⟩:=kV ht;exact⟨w,_,by rw [EJ k ht (ok x (by simp) hx 0),e];rfl,.inl hw⟩
 | call ht hl=>
  obtain⟨w,ws,e,hw⟩:=kV ht;exact⟨w,_,by rw [Jw k ht fun y hy=>ok y hy (hl y hy) 0,e];rfl,.inl hw⟩
 | @op _ x y h0 h1 hx hy=>
  rw [ah1 k h0 h1 (ok x (by simp) hx _)];split
  ·exact⟨_,_,rfl,.inr (.inr (.inr (.inr rfl)))⟩
  ·obtain⟨w,ws,e,hw⟩:=ih x (by simp) (zJ m) (hk x (by simp)) (iI x (by simp)) hx
   exact⟨w,_,by unfold opW;rw [e];rfl,hw⟩
 | neg hx=>exact⟨_,_,Xh k _,.inr (.inr (.inl rfl))⟩
 | not_ hx=>exact⟨_,_,Xi k _,.inr (.inr (.inr (.inl rfl)))⟩
 | _=>exact absurd hke (by simp)
def XS (x:Nd):Prop:=∀ (k:Nat) (l r:List Tk) (o:Out Nd),k≤3→Fits (fJ (k:Int) x).2 l→Cont k x r o→Rd (.bound k) (l++r) o
theorem XS.all {x:Nd} (h:XS x) {l r:List Tk} (hl:Fits (fJ 0 x).2 l) (hr:yS 0 r):Rd .expr (l++r) (.got x r):=Mc (h 0 l r _ (by decide) hl (qC hr))
theorem tZ {x:Nd} {l r:List Tk} {t1 t2:Tk} (h1:Is t1 dh) (h2:Is t2 aV) (h:Rd .expr (l++t2::r) (.got x (t2::r))):Rd .asked (t1::(l++t2::r)) (.got x r):=
 zB h fun m a=>by
  rw [bn,iH h1];show (bn m .expr (l++t2::r)).bind _=_
  rw [a];show (dU aV (t2::r)).bind _=_
  rw [iH h2];rfl
theorem O_ {s:ByteArray}:∀ (ys:List Nd) (acc:List Nd) (y:Nd) (l1 l2 r:List Tk) (t:Tk),(∀ z∈y::ys,XS z∧(fJ 0 z).1=true∧∃ w ws,(fJ 0 z).2=w::ws∧Ed w)→Fits (fJ 0 y).2 l1→Fits (oJ (ys.map (fJ 0)) false).2 l2→Is t aV→
  Rd (.args s acc) (l1++(l2++t::r)) (.got (.mk 18 s 0 (acc++y::ys)) r):=by
 intro ys;induction ys with
 | nil=>
  intro acc y l1 l2 r t hz h1 h2 ht;obtain⟨hb,hok,w,ws,e,hw⟩:=hz y (by simp);obtain rfl:l2=[]:=Fits.nil h2;have hx:Rd .expr (l1++t::r) (.got y (t::r)):=hb.all h1 (gX ht (.inl rfl) r)
  have hno:¬ (eY (l1++t::r) [aV]=true∧acc.length=0):=by
   rw [e] at h1;obtain⟨t1,q,rfl,h3,-⟩:=Fits.cons h1;rintro ⟨h4,-⟩;rw [List.cons_append,dS h3 hw.ne] at h4;cases h4
  refine zB hx fun m a=>?_
  rw [List.nil_append,bn,if_neg hno,a];show (if eY (t::r) [fL]=true then _ else _)=_
  rw [dS ht,if_neg (by decide),iH ht];rfl
 | cons z ys ih=>
  intro acc y l1 l2 r t hz h1 h2 ht;obtain⟨hb,hok,w,ws,e,hw⟩:=hz y (by simp);have hzk:=(hz z (by simp)).2.1;rw [List.map_cons,oJ] at h2;simp only [Bool.false_eq_true,if_false] at h2;rw [kJ,pz hzk,List.singleton_append] at h2;obtain⟨t3,q,rfl,h3,h4⟩:=Fits.cons h2;obtain⟨l3,l4,rfl,h5,h6⟩:=Fits.app h4;have hrec:=ih (acc ++ [y]) z l3 l4 r t (fun u hu=>hz u (by simp at hu ⊢;exact .inr hu)) h5 h6 ht;have hx:Rd .expr (l1++t3::((l3++l4)++t::r)) (.got y (t3::((l3++l4)++t::r))):=hb.all h1 (gX h3 (.inr (.inr (.inl rfl))) _)
  have hno:¬ (eY (l1++t3::((l3++l4)++t::r)) [aV]=true∧acc.length=0):=by
   rw [e] at h1;obtain⟨t1,q,rfl,h3,-⟩:=Fits.cons h1;rintro ⟨h4,-⟩;rw [List.cons_append,dS h3 hw.ne] at h4;cases h4
  refine WE hx hrec fun m a b=>?_
  rw [List.cons_append,bn,if_neg hno,a];show (if eY (t3::((l3++l4)++t::r)) [fL]=true then bn m (.args s (acc ++ [y])) ((l3++l4)++t::r) else _)=_
  rw [if_pos (iG h3),List.append_assoc,b,List.append_assoc];rfl
theorem DG {s:ByteArray} {ys:List Nd} {l r:List Tk} {t1 t2:Tk} (hz:∀ z∈ys,XS z∧(fJ 0 z).1=true∧∃ w ws,(fJ 0 z).2=w::ws∧Ed w) (h1:Is t1 dh) (h2:Is t2 aV) (h:Fits (oJ (ys.map (fJ 0)) true).2 l) :
  Rd (.call s) (t1::(l++t2::r)) (.got (.mk 18 s 0 ys) r):=by
 have key:Rd (.args s []) (l++t2::r) (.got (.mk 18 s 0 ys) r):=by
  cases ys with
  | nil=>
   obtain rfl:l=[]:=Fits.nil h;refine WC fun m=>?_
   rw [List.nil_append,bn,if_pos ⟨iG h2,rfl⟩,iH h2];rfl
  | cons y ys=>
   rw [List.map_cons,oJ] at h;simp only [if_true] at h;rw [kJ,pz (hz y (by simp)).2.1,List.nil_append] at h;obtain⟨l3,l4,rfl,h5,h6⟩:=Fits.app h;have:=O_ (s:=s) ys [] y l3 l4 r t2 hz h5 h6 h2;rw [List.append_assoc];exact this
 refine zB key fun m a=>?_
 rw [bn,iH h1];exact a
theorem AX {s:ByteArray} {r:List Tk} (hr:eY r [ov]=false):Rd (.place s) r (.got (.mk 16 s 0 []) r):=WC fun m=>by rw [bn,if_neg (by rw [hr];decide)]
theorem AY {s:ByteArray} {x:Nd} {l r:List Tk} {t1 t2:Tk} (h1:Is t1 ov) (h2:Is t2 lN) (h:Rd .expr (l++t2::r) (.got x (t2::r))):Rd (.place s) (t1::(l++t2::r)) (.got (.mk 17 s 0 [x]) r):=
 zB h fun m a=>by
  rw [bn,if_pos (iG h1)];show (bn m .expr (l++t2::r)).bind _=_
  rw [a];show (dU lN (t2::r)).bind _=_
  rw [iH h2];rfl
theorem xu {t:ByteArray} (ht:lu t) {l r:List Tk} {o:Out Nd} (h:Fits (jA t) l) (hr:eY r [uO]=false) (h2:if eY r [dh]=true then Rd (.call t) r o else Rd (.place t) r o):Rd .unary (l++r) o:=by
 have hp:=vM ht h hr;obtain⟨w,ws,e,hw⟩:=kV ht;rw [e] at h;obtain⟨t1,q,rfl,h3,-⟩:=Fits.cons h;have hw2:nameB w.data.toList=true:=hw;have a1:eY (t1::(q++r)) [pO]=false:=dS h3 (kR hw);have a2:eY (t1::(q++r)) [Ac]=false:=dS h3 (kR hw);have a3:eY (t1::(q++r)) [dh]=false:=dS h3 (kR hw);have a4:kindOf (t1::(q++r))=1:=by show t1.kind=1;rw [h3.2,Ea hw2]
 rw [List.cons_append] at hp ⊢;split at h2
 ·rename_i ho
  refine zB h2 fun m a=>?_
  rw [bn,a1,a2,a3,if_neg (by decide),if_neg (by decide),if_neg (by decide),if_neg (by omega),hp];show (if eY r [dh]=true then _ else _)=_
  rw [if_pos ho,a]
 ·rename_i ho
  refine zB h2 fun m a=>?_
  rw [bn,a1,a2,a3,if_neg (by decide),if_neg (by decide),if_neg (by decide),if_neg (by omega),hp];show (if eY r [dh]=true then _ else _)=_
  rw [if_neg ho,a]
theorem EK:∀ (x:Nd),tN x→fC x→mJ x.kd→XS x:=by
 refine gz fun kd t m l ih hr hX hke=>?_
 have hk:=hr.kids;have iI:=hX.kids;have hf:=hX.form;have ok:∀ y∈l,mJ y.kd→∀ le,(fJ le y).1=true:=fun y hy h le=>(lZ y le (hk y hy)).2 ⟨iI y hy,h⟩
 have hd:∀ y∈l,mJ y.kd→∃ w ws,(fJ 0 y).2=w::ws∧Ed w:=fun y hy h=>Lu y 0 (hk y hy) (iI y hy) h
 have bk:∀ y∈l,mJ y.kd→XS y:=fun y hy h=>ih y hy (hk y hy) (iI y hy) h
 unfold mJ Nd.kd at hke;intro k ts r o hk3 hfit hc;cases hf with
 | num h0 h1=>
  rw [w_num _ h0] at hfit;obtain⟨t1,q,rfl,h3,h4⟩:=Fits.cons hfit;obtain rfl:=Fits.nil h4;have hkd:=AZ h0 h1;refine oL (fun _=>WC fun n=>?_) hk3 hc
  rw [List.singleton_append,bn,KC h3 hkd,KC h3 hkd,KC h3 hkd,if_neg (by decide),if_neg (by decide),if_neg (by decide),if_pos (show kindOf (t1::r)=2 from h3.2.trans hkd)];simp only [gu];rw [if_pos (h3.2.trans hkd),h3.1,LC h0 h1]
 | name ht=>
  rw [EI _ ht] at hfit;refine oL (fun hF=>xu ht hfit hF.dot ?_) hk3 hc
  rw [if_neg (by rw [hF.opn];decide)];exact AX hF.bra
 | @item _ x ht hx=>
  rw [EJ _ ht (ok x (by simp) hx 0)] at hfit;obtain⟨l1,l2,rfl,h1,h2⟩:=Fits.app hfit;obtain⟨t1,q,rfl,h3,h4⟩:=Fits.cons h2;obtain⟨l3,l4,rfl,h5,h6⟩:=Fits.app h4;obtain⟨t2,q,rfl,h7,h8⟩:=Fits.cons h6;obtain rfl:=Fits.nil h8;have e:(l1++t1::(l3 ++ [t2]))++r=l1++(t1::(l3++t2::r)):=by simp
  rw [e];refine oL (fun hF=>xu ht h1 (dS h3) ?_) hk3 hc
  rw [if_neg (by rw [dS h3];decide)];exact AY h3 h7 ((bk x (by simp) hx).all h5 (gX h7 (.inr (.inl rfl)) r))
 | call ht hl=>
  rw [Jw _ ht fun y hy=>ok y hy (hl y hy) 0] at hfit;obtain⟨l1,l2,rfl,h1,h2⟩:=Fits.app hfit;obtain⟨t1,q,rfl,h3,h4⟩:=Fits.cons h2;obtain⟨l3,l4,rfl,h5,h6⟩:=Fits.app h4;obtain⟨t2,q,rfl,h7,h8⟩:=Fits.cons h6;obtain rfl:=Fits.nil h8;have e:(l1++t1::(l3 ++ [t2]))++r=l1++(t1::(l3++t2::r)):=by simp
  rw [e];refine oL (fun hF=>xu ht h1 (dS h3) ?_) hk3 hc
  rw [if_pos (iG h3)];exact DG (fun z hz=>⟨bk z hz (hl z hz),ok z hz (hl z hz) 0,hd z hz (hl z hz)⟩) h3 h7 h5
 | @op _ x y h0 h1 hx hy=>
  rw [ah1 _ h0 h1 (ok x (by simp) hx _)] at hfit;obtain⟨ho,hs3,-,-,-,aw8⟩:=Ec h0 h1;-- the words without Xj
  have inner:∀ (j:Nat) (ts r:List Tk) (o:Out Nd),(dW m).2=(j:Int)→Fits (opW m x y) ts→Cont j (.mk 19 aF m [x,y]) r o→Rd (.bound j) (ts++r) o:=by
   intro j ts r o hj hfit hc;obtain⟨l1,l2,rfl,h2,h3⟩:=Fits.app hfit;obtain⟨t1,l3,rfl,h4,h5⟩:=Fits.cons h3;have hkk:t1.kind=3:=h4.2.trans hs3;have hop:lI t1.text=(m,(j:Int)):=by rw [h4.1,ho,hj]
   have e:(l1++t1::l3)++r=l1++(t1::(l3++r)):=by simp
   rw [e];have hxb:=bk x (by simp) hx;have hyb:=bk y (by simp) hy;have ah2:yS ((j+1:Nat):Int) r:=by have:=hc.fol;rw [show ((j+1:Nat):Int)=(j:Int)+1 by omega];exact this
   have hy2:Rd (.bound (j+1)) (l3++r) (.got y r):=hyb (j+1) l3 r _ (by omega) (by rw [hj] at h5;exact h5) (qC ah2);by_cases hj0:j=0
   ·subst hj0
    have h2':Fits (fJ ((1:Nat):Int) x).2 l1:=by
     have e2:zJ m=((1:Nat):Int):=by unfold zJ;rw [hj];rfl
     rw [e2] at h2;exact h2
    obtain⟨oO,rfl⟩:=hc.fin (.inl rfl);have hx1:Rd (.bound 1) (l1++(t1::(l3++r))) (.got x (t1::(l3++r))):=hxb 1 l1 _ _ (by decide) h2' (qC (Me h4 h0 h1 (by rw [hj];decide) _));exact IC (by decide) hx1 (YL hkk hop hy2)
   ·have h2':Fits (fJ (j:Int) x).2 l1:=by
     have e2:zJ m=(j:Int):=by unfold zJ;rw [if_neg (by omega)];exact hj
     rw [e2] at h2;exact h2
    refine hxb j l1 _ o (by omega) h2' ⟨Me h4 h0 h1 (by rw [hj];omega) _,fun _=>?_,fun h=>by omega⟩
    exact ah0 hj0 hkk hop hy2 (hc.mid (by omega))
  obtain⟨j,hj,hj2⟩:∃ j:Nat,(dW m).2=(j:Int)∧j≤2:=by
   rcases aw8 with h|h|h
   ·exact⟨0,h,by decide⟩
   ·exact⟨1,h,by decide⟩
   ·exact⟨2,h,by decide⟩
  split at hfit
  ·obtain⟨t1,q,rfl,h3,h4⟩:=Fits.cons hfit
   obtain⟨l3,l4,rfl,h5,h6⟩:=Fits.app h4;obtain⟨t2,q,rfl,h7,h8⟩:=Fits.cons h6;obtain rfl:=Fits.nil h8;have e:(t1::(l3 ++ [t2]))++r=t1::(l3++t2::r):=by simp
   rw [e];refine oL (fun hF=>?_) hk3 hc
   have hin:Rd .expr (l3++t2::r) (.got (.mk 19 aF m [x,y]) (t2::r)):=
    Mc (lift (by omega) (fun o hc=>inner j l3 (t2::r) o hj h5 hc) j 0 _ (by omega) (qC (gX h7 (.inl rfl) r)))
   refine zB (tZ h3 h7 hin) fun n a=>?_
   rw [bn,dS h3,dS h3,iG h3,if_neg (by decide),if_neg (by decide),if_pos rfl,a]
  ·exact lift (by omega) (fun o hc=>inner j ts r o hj hfit hc) (j-k) k o (by omega) hc
 | @neg x hx=>
  rw [Xh] at hfit;obtain⟨t1,q,rfl,h3,h4⟩:=Fits.cons hfit;refine oL (fun hF=>?_) hk3 hc
  have hb:=bk x (by simp) hx;have h5:Rd (.bound 3) (q++r) (.got x r):=hb 3 q r _ (by decide) h4 (qC hF)
  have h6:Rd .unary (q++r) (.got x r):=by
   obtain⟨n,hn⟩:=h5;refine⟨n,fun p hp=>?_⟩
   have:=hn (p+1) (by omega);rw [bn,if_pos (by decide)] at this;exact this
  refine zB h6 fun n a=>?_
  rw [List.cons_append,bn,iG h3,if_pos rfl];show (bn n .unary (q++r)).bind _=_
  rw [a];rfl
 | @not_ x hx=>
  rw [Xi] at hfit;obtain⟨t1,q,rfl,h3,h4⟩:=Fits.cons hfit;refine oL (fun hF=>?_) hk3 hc
  have hb:=bk x (by simp) hx;have h5:Rd (.bound 3) (q++r) (.got x r):=hb 3 q r _ (by decide) h4 (qC hF)
  have h6:Rd .unary (q++r) (.got x r):=by
   obtain⟨n,hn⟩:=h5;refine⟨n,fun p hp=>?_⟩
   have:=hn (p+1) (by omega);rw [bn,if_pos (by decide)] at this;exact this
  refine zB h6 fun n a=>?_
  rw [List.cons_append,bn,dS h3,iG h3,if_neg (by decide),if_pos rfl];show (bn n .unary (q++r)).bind _=_
  rw [a];rfl
 | _=>exact absurd hke (by simp)
end prt
end Go.Proofs.YtpcihajmcejliacGreatDoor
