/- The walk of the program's parser: what binds. -/
import Derived.Test.YtpcihajmcejliacGreatDoorSyn4o
namespace Go.Proofs.YtpcihajmcejliacGreatDoor
open Go.RowKit
namespace bu
def lZ (W w0:World) (S E A B N:Nat) (l:List Tk) (x:Nd) (v:Value) (op:Int) (T:Out Nd):List Value→World→Prop
 | [],u=>At W w0 u S E A l∧Loc S B N u x v∧B≤u.heap.size
 | [z],u=>∃ y l',Hid (T=.got y l')∧At W w0 u S E A l'∧Loc S B N u x v∧B≤u.heap.size∧fN (hide (qI B N) u) y z
 | [_,s],u=>∃ y l',Hid (T=.got y l')∧At W w0 u S E A l'∧Loc S B N u x v∧B≤u.heap.size∧∃ g,s=.slice (some ⟨g,0,none⟩) 2 2∧fN (hide (qI B N) u) (.mk 19 aU op [x,y]) (.agg #[.int .i64 19,.string aU,.int .i64 op,.slice (some ⟨g,0,none⟩) 2 2])
 | [_,_,n],u=>∃ y l',Hid (T=.got y l')∧At W w0 u S E A l'∧Loc S B N u x v∧B≤u.heap.size∧∃ g,n=.agg #[.int .i64 19,.string aU,.int .i64 op,.slice (some ⟨g,0,none⟩) 2 2]∧fN (hide (qI B N) u) (.mk 19 aU op [x,y]) n
 | [_,_,n,_],u=>∃ y l',Hid (T=.got y l')∧At W w0 u S E A l'∧Loc S B N u (.mk 19 aU op [x,y]) n∧B≤u.heap.size
 | _,_=>False
theorem lZ.cells {W w0 u:World} {S E A B N:Nat} {l:List Tk} {x:Nd} {v:Value} {op:Int} {T:Out Nd} {vs:List Value} (h:lZ W w0 S E A B N l x v op T vs u) (hv:vs.length≤1):Loc S B N u x v:=by
 match vs,hv,h with
 | [],_,h=>exact h.2.1
 | [_],_,⟨_,_,_,_,h,_⟩=>exact h
theorem E5 {W w0 u u2:World} {S E A B N:Nat} {l l':List Tk} {x y:Nd} {v z:Value} {op:Int} {T:Out Nd} (h:lZ W w0 S E A B N l x v op T [] u) (hC:aB (fun i=>i=S) u u2) (hT:T=.got y l') (hV:VN u.heap.size y z u2) (hP:bz W u2 S E l'):lZ W w0 S E A B N l x v op T [z] u2:=by
 obtain⟨h1,h2,h3⟩:=h;have h4:=h2.nd.lt;refine⟨y,l',Z_ hT,h1.call hC hP,h2.call hC,Nat.le_trans h3 hC.size,aX (aT (Nat.le_refl _) fun i hi hm=>?_) _ _ hV⟩
 simp only [below,qI,decide_eq_false_iff_not,Bool.or_eq_false_iff] at hm ⊢;exact⟨⟨by omega,by omega⟩,trivial⟩
theorem Dk {W w0 u:World} {S E A B N:Nat} {l:List Tk} {x:Nd} {v z:Value} {op:Int} {T:Out Nd} (h:lZ W w0 S E A B N l x v op T [z] u) {c:Array Value} (hc:v.cells++z.cells=c):lZ W w0 S E A B N l x v op T [z,.slice (some ⟨u.heap.size,0,none⟩) 2 2] (u.alloc (.cells c 24)):=by
 obtain⟨y,l',hT,h1,h2,h3,h4⟩:=h;have hE:=(aB.refl (fun _=>False) u).alloc (.cells c 24);have h5:=h2.nd.lt;exact⟨y,l',hT,h1.extend hE,h2.extend hE,Nat.le_trans h3 hE.size,_,rfl,O1 h2.dat h4 (by simp [qI];omega) 19 op aU (by decide) hc⟩
theorem E8 {W w0 u u2:World} {S E A B N:Nat} {l:List Tk} {x:Nd} {v z:Value} {op:Int} {T:Out Nd} {g:Nat} (h:lZ W w0 S E A B N l x v op T [z,.slice (some ⟨g,0,none⟩) 2 2] u) (hE:Ext u u2):lZ W w0 S E A B N l x v op T [z,.slice (some ⟨g,0,none⟩) 2 2,.agg #[.int .i64 19,.string aU,.int .i64 op,.slice (some ⟨g,0,none⟩) 2 2]] u2:=by
 obtain⟨y,l',hT,h1,h2,h3,g',e,h4⟩:=h;obtain rfl:g=g':=by simpa using e
 exact⟨y,l',hT,h1.extend hE,h2.extend hE,Nat.le_trans h3 hE.size,g,rfl,aX (aH hE fun _ _ h=>h.elim) _ _ h4⟩
theorem Dl {W w0 u:World} {S E A B N:Nat} {l:List Tk} {x:Nd} {v z s q:Value} {op:Int} {T:Out Nd} {a b c d:Value} (h:lZ W w0 S E A B N l x v op T [z,s,.agg #[a,b,c,d]] u) (DK:A<N) :
  lZ W w0 S E A B N l x v op T [z,s,.agg #[a,b,c,d],q] ((((u.setCell ⟨N,0,none⟩ a).setCell ⟨N,1,none⟩ b).setCell ⟨N,2,none⟩ c).setCell ⟨N,3,none⟩ d):=by
 obtain⟨y,l',hT,h1,h2,h3,g,e,h4⟩:=h;have hC:aB (fun i=>i=N) u ((((u.setCell ⟨N,0,none⟩ a).setCell ⟨N,1,none⟩ b).setCell ⟨N,2,none⟩ c).setCell ⟨N,3,none⟩ d):=ai (ai (ai (ai (aB.refl _ _) 0 a) 1 b) 2 c) 3 d;refine⟨y,l',hT,h1.far hC DK,⟨?_,aX (aH hC fun i _ e=>by rw [e];simp [qI]) _ _ h4,h2.Je,h2.hSN⟩,Nat.le_trans h3 hC.size⟩
 have hs:=fB h2.dat;have h5:=(((h2.nd.set 0 a).set 1 b).set 2 c).set 3 d
 have e:(((v.cells.setIfInBounds 0 a).setIfInBounds 1 b).setIfInBounds 2 c).setIfInBounds 3 d=(Value.agg #[a,b,c,d]).cells:=by
  obtain⟨a',b',c',d',-,e',-⟩:=bD h2.dat;rw [e'];rfl
 rw [e] at h5;exact h5
set_option maxRecDepth 100000 in
set_option maxHeartbeats 4000000 in
theorem IW {n:Nat} (ih:∀ m,m≤n→Good m) {W w:World} {S E:Nat} {l:List Tk} {k:Nat} (h:bz W w S E l) (hm:cE W) (hk:k≤3) (hne:bJ (n+1) (.bound k) l≠.out) :
  Calls Tryz.prog 364 #[.pointer (some ⟨S,0,none⟩),.int .i64 (k:Nat)] w (eC (VN w.heap.size) W w S E (bJ (n+1) (.bound k) l)):=by
 obtain⟨T,hT⟩:∃ T,bJ (n+1) (.bound k) l=T:=⟨_,rfl⟩;rw [hT] at hne ⊢;simp only [bJ] at hT;have HT:=Z_ hT;have h_:=Z_ hne;have HM:=Z_ hm;have aA:Hid (At W w (w.alloc (.cells #[.int .i64 0,.string ⟨#[]⟩,.int .i64 0,.slice none 0 0] 24)) S E w.heap.size l):=Z_ (At.start h);obtain⟨A,hA⟩:∃ A,w.heap.size=A:=⟨_,rfl⟩;rw [hA] at aA;have Pj:S<A:=by have:=h.lt;omega
 clear h hm hne hT;go_enter Tryz.func364,Tryz.ntmps364
 go_upto_region 1 with (fail)
 generalize w.alloc (.cells #[.int .i64 0,.string ⟨#[]⟩,.int .i64 0,.slice none 0 0] 24)=u0 at *;by_cases hk2:2<k
 ·have HT0:=HT.out
  clear HT;simp only [hk2,↓reduceIte] at HT0;have HT:=Z_ HT0;clear HT0;obtain rfl:k=3:=by omega
  have iE:=aA.out.lt;obtain⟨B,hB⟩:∃ B,u0.heap.size=B:=⟨_,rfl⟩;rw [hB] at iE;have HN:=Z_ (ih n (Nat.le_refl _) (.unary) _ _ aA.out.pr HM.out rfl trivial (by rw [HT.out];exact h_.out));go_wp2_with fail
  refine HN.out.mono ?_
  rintro e u1 hr;obtain⟨hC,⟨lb,hp,rfl⟩|⟨x1,l1,v1,hp,rfl,hv,hP⟩⟩:=hr.cases (by rw [HT.out];exact h_.out)
  ·have HF:=Z_ (HT.out.symm.trans hp)
   have HC:=Z_ (aA.out.aK.then hC);clear hr hp hC;go_wp2_with fail
   exact⟨rfl,eC.fails HC.out HF.out⟩
  replace HT:=Z_ (HT.out.symm.trans hp);replace aA:=Z_ (aA.out.call hC hP);obtain⟨ka1,Vg,Vh,Vj,Vk,ca1,rfl⟩:=cH hv;have Pm:=Z_ hv;have hsz1:u0.heap.size≤u1.heap.size:=hC.size;clear hr hp hC hP hv HN;rw [hB] at Pm;have r0:=aA.out.res.cell;have rf:=aA.out.res.frozen;have rl:=aA.out.res.lt;unfold bK at r0;go_wp2_with fail
  refine bG rfl rfl rfl ((((aA.out.res.set 0 _).set 1 _).set 2 _).set 3 _) Tryz.underlying24 rfl (by kernel_rfl) ?_
  exact eM aA.out (below B) (Pm.out) (cg (by omega)) (fun i hi=>cg (by omega)) (HT.out)
 ·have HT0:=HT.out
  clear HT;simp only [hk2,↓reduceIte] at HT0;have HT:=Z_ HT0;clear HT0;have hk3:¬ ((k:Int) > 2):=by omega
  have hk4:¬ (2<(k:Int)):=by omega
  have hkw:IntKind.i64.wrap ((k:Int)+1)=((k+1:Nat):Int):=by rw [wrap_small _ (by omega) (by omega)];rfl
  have ah1:wrap64 ((k:Int)+1)=((k+1:Nat):Int):=by unfold wrap64;omega
  have iE:=aA.out.lt;obtain⟨B,hB⟩:∃ B,u0.heap.size=B:=⟨_,rfl⟩;rw [hB] at iE;have HN:=Z_ (ih n (Nat.le_refl _) (.bound (k+1)) _ _ aA.out.pr HM.out rfl (by omega:k+1≤3) (Out.bh HT.out h_.out));go_wp2_with fail
  refine HN.out.mono ?_
  rintro e u1 hr;obtain⟨hC,⟨lb,hp,rfl⟩|⟨x1,l1,v1,hp,rfl,hv,hP⟩⟩:=hr.cases (Out.bh HT.out h_.out)
  ·have HF:=Z_ (Out.aF HT.out hp)
   have HC:=Z_ (aA.out.aK.then hC);clear hr hp hC;go_wp2_with fail
   exact⟨rfl,eC.fails HC.out HF.out⟩
  replace HT:=Z_ (Out.aG HT.out hp);replace aA:=Z_ (aA.out.call hC hP);obtain⟨ka1,Vg,Vh,Vj,Vk,ca1,rfl⟩:=cH hv;have Pm:=Z_ hv;have hsz1:u0.heap.size≤u1.heap.size:=hC.size;clear hr hp hC hP hv HN;rw [hB] at Pm hsz1;have HL:=Z_ (Loc.start Pm.out (by omega:S<B) hsz1 (c:=#[.int .i64 ka1,.string Vg,.int .i64 Vh,.slice Vj Vk ca1]) rfl);replace aA:=Z_ (aA.out.alloc (.cells #[.int .i64 ka1,.string Vg,.int .i64 Vh,.slice Vj Vk ca1] 24));obtain⟨N,hN⟩:∃ N,u1.heap.size=N:=⟨_,rfl⟩;have hBN:B≤N:=hN▸hsz1
  rw [hN] at HL;go_wp2_with fail
  generalize u1.alloc (.cells #[.int .i64 ka1,.string Vg,.int .i64 Vh,.slice Vj Vk ca1] 24)=v0 at *;have HLl:=HL.out.nd.lt;go_loopg [] n (fun kk wr=>∃ l2 x v,kk≤n∧B≤wr.heap.size∧Hid (bJ kk (.loop k x) l2=T)∧Hid (At W w wr S E A l2)∧Hid (Loc S B N wr x v))
  case atStart=>exact⟨l1,x1,.agg #[.int .i64 ka1,.string Vg,.int .i64 Vh,.slice Vj Vk ca1],Nat.le_refl _,by omega,HT,aA,HL⟩
  clear HT aA HL Pm
  case round=>
   obtain⟨lr,xd,vd,hkn,hBr,HT,aA,HL⟩:=hrel;cases gk with
   | zero=>exact absurd HT.out.symm h_.out
   | succ m=>
    have HT0:=HT.out;clear HT;simp only [bJ] at HT0;have HT:=Z_ HT0;clear HT0;obtain⟨kx,tx,mx,ax,nx,cx,rfl⟩:=cH HL.out.dat;have HH:=Z_ (oz aA.out.pr);have hkk:=F5 E lr;have htt:=OM E lr;have hpr:∀ t r,lr=t::r→sO E lr=t:=fun t r e=>by rw [e];rfl
    generalize sO E lr=tk0 at HH hkk htt hpr;obtain⟨tk,tt,ta⟩:=tk0;simp only at hkk htt;unfold H9 at HH;rw [←hkk,←htt] at HT;have Qw:=Z_ (TU tt);generalize rI tt=oo at *;obtain⟨op,lv⟩:=oo;simp only at HT Qw;have HK:=Z_ hkk;clear hkk htt hpr;go_wp2_with fail
    refine HH.out.mono ?_
    rintro e u5 ⟨rfl,hE⟩;have Df:=Z_ (aC.made u5 #[.int .i64 tk,.string tt,.int .i64 ta] 195);have xG:=hE.alloc (.cells #[.int .i64 tk,.string tt,.int .i64 ta] 195);replace aA:=Z_ (aA.out.extend xG);replace HL:=Z_ (HL.out.extend xG);have Z8:=Nat.le_trans hBr xG.size;obtain⟨Pk,hPk⟩:∃ Pk,u5.heap.size=Pk:=⟨_,rfl⟩;rw [hPk] at Df;clear hE xG HH;go_upto_region 5 with (fail)
    generalize u5.alloc (.cells #[.int .i64 tk,.string tt,.int .i64 ta] 195)=u6 at *;have p0:=Df.out.cell 0;have p1:=Df.out.cell 1;simp at p0 p1
    go_wp2_with fail
    refine(Qw.out _).mono ?_
    rintro e w' ⟨rfl,rfl⟩;clear Qw p1;by_cases hlv:lv=(k:Int)
    ·by_cases htk:tk=3
     ·subst htk
      have Yl:(lv != (k:Int))=false:=by simp [hlv]
      have HT0:=HT.out;clear HT;simp only [hlv,and_self,↓reduceIte] at HT0;have HT:=Z_ HT0;clear HT0;obtain⟨t0,r0,rfl⟩:∃ t r,lr=t::r:=by cases lr with|nil=>exact absurd HK.out (by decide)|cons t r=>exact⟨t,r,rfl⟩
      obtain⟨kc,hkc,al5,oU⟩:=vT aA.out.pr;obtain⟨a',n',c',k',hBk,-,-⟩:=xu aA.out.pr;have hf:=hBk.frozen 1;have hSl:=hBk.lt;have al6:IntKind.i64.wrap ((kc:Int)+1)=(kc:Int)+1:=wrap_small _ (by omega) (by omega);replace HL:=Z_ (HL.out.call (ai (aB.refl _ _) 1 (.int .i64 ((kc:Int)+1))));replace aA:=Z_ (aA.out.call (ai (aB.refl _ _) 1 (.int .i64 ((kc:Int)+1))) oU);clear oU hBk Df;go_upto_region 9 with (fail)
      clear hkc hf hSl p0;have U1:B≤(u6.setCell ⟨S,1,none⟩ (.int .i64 ((kc:Int)+1))).heap.size:=by simpa using Z8
      generalize u6.setCell ⟨S,1,none⟩ (.int .i64 ((kc:Int)+1))=u8 at *;have DK:A<N:=by omega
      refine aj [5,6,7,8] (fun i v _=>v=([.int .i64 op,.agg #[.int .i64 kx,.string tx,.int .i64 mx,.slice ax nx cx],.pointer (some ⟨S,0,none⟩),.int .i64 (k:Nat),.int .i64 ((k+1:Nat):Int),undef,undef,undef,undef]:List Value).getD i undef) (lZ W w S E A B N r0 xd (.agg #[.int .i64 kx,.string tx,.int .i64 mx,.slice ax nx cx]) op (bJ m (.bound (k+1)) r0)) (fun _ _=>True) (frame:=?fra) (fun x=>?hfa) mixed (by kernel_rfl) (by kernel_rfl) (fun _ _ _ _ h _=>h) ?h0 ?st ?fin
      case hfa=>
       simp only [chain.aN,chain.fill,chain.bf,chain.aY,jW,jX,jY,jZ,kz,kC,kD,kE,kF];exact rfl
      case h0=>exact⟨aA.out.extend (aB.refl _ _).drew,HL.out.extend (aB.refl _ _).drew,U1⟩
      case st=>
       iterate 9 (refine ak.cons (fun x vs u hF hm hb hd K' hK'=>?_) ?_;rotate_left)
       exact ak.nil
       ·have HF:=Z_ hF;clear hd hm hb hF;go_simp;exact hK'.out _ _ _ rfl trivial ⟨rfl,HF.out⟩
       ·have TV:=hF.cells (by have:=hb 1 _ (by decide) rfl (by kernel_rfl);omega);have hc:=TV.nd.cell;simp only [Value.cells] at hc;clear TV;have HF:=Z_ hF;clear hd hm hb hF;go_simp;exact hK'.out _ _ _ rfl trivial ⟨rfl,HF.out⟩
       ·have HF:=Z_ hF;clear hd hm hb hF;go_simp;exact hK'.out _ _ _ rfl trivial ⟨rfl,HF.out⟩
       ·have HF:=Z_ hF;clear hd hm hb hF;go_simp;exact hK'.out _ _ _ rfl trivial ⟨rfl,HF.out⟩
       ·have y0:x 44=.int .i64 (k:Nat):=(D_ hd 3 :);have HF:=Z_ hF;clear hd hm hb hF;go_simp;exact hK'.out _ _ _ (by simp only [y0];rfl) trivial ⟨by first|rfl|simp [hkw]|simp [ah1],HF.out⟩
       ·have y0:x 43=.pointer (some ⟨S,0,none⟩):=(D_ hd 2 :);have y1:x 45=.int .i64 ((k+1:Nat):Int):=(D_ hd 4 :);obtain rfl:=kS hm;have HF:=Z_ hF;clear hd hm hb hF;have jM:=Z_ (ih m (by omega) (.bound (k+1)) _ _ HF.out.1.pr HM.out rfl (by omega:k+1≤3) (Out.bh HT.out h_.out));go_simp;refine jM.out.mono ?_
        rintro e u2 hr;obtain⟨hC,⟨lb,hp,rfl⟩|⟨xn,ln,z,hp,rfl,hv,hP⟩⟩:=hr.cases (Out.bh HT.out h_.out)
        ·have HE:=Z_ (Out.aF HT.out hp)
         have HC:=Z_ (HF.out.1.aK.then hC);clear hr hp hC hK' jM;go_wp2_with fail
         exact⟨rfl,eC.fails HC.out HE.out⟩
        ·exact hK'.out _ _ _ (by simp only [y0,y1];rfl) trivial (E5 HF.out hC hp hv hP)
       ·obtain⟨v0,rfl⟩:=mD hm
        have y0:x 42=.agg #[.int .i64 kx,.string tx,.int .i64 mx,.slice ax nx cx]:=(D_ hd 1 :);have y1:x 46=v0:=((D_ hd 5) 46 (by kernel_rfl) :);have hcl:∃ a b c d,v0=.agg #[a,b,c,d]:=by obtain⟨yn,ln,_,_,_,_,hx⟩:=hF;obtain⟨a,b,c,d,h,_⟩:=bD hx;exact⟨a,b,c,d,h⟩
        obtain⟨a0,b0,c0,d0,rfl⟩:=hcl;have HF:=Z_ hF;clear hd hm hb hF;go_simp;exact hK'.out _ _ _ (by simp only [y0,y1];rfl) trivial (Dk HF.out rfl)
       ·obtain⟨v0,v1,rfl⟩:=tN hm
        have y0:x 41=.int .i64 op:=(D_ hd 0 :);have y1:x 47=v1:=((D_ hd 6) 47 (by kernel_rfl) :);have hcl:∃ g,v1=.slice (some ⟨g,0,none⟩) 2 2:=by obtain⟨yn,ln,_,_,_,_,g,e,_⟩:=hF;exact⟨g,e⟩
        obtain⟨g,rfl⟩:=hcl;have HF:=Z_ hF;clear hd hm hb hF;go_simp;refine(dH _ _ _ _ _ _ _).mono ?_
        rintro e u2 ⟨rfl,hE⟩;exact hK'.out _ _ _ (by simp only [y0,y1];rfl) trivial (E8 HF.out hE)
       ·obtain⟨v0,v1,v2,rfl⟩:=zF hm
        have y1:x 48=v2:=((D_ hd 7) 48 (by kernel_rfl) :);have hcl:∃ g,v2=.agg #[.int .i64 19,.string aU,.int .i64 op,.slice (some ⟨g,0,none⟩) 2 2]:=by obtain⟨yn,ln,_,_,_,_,g,e,_⟩:=hF;exact⟨g,e⟩
        obtain⟨g,rfl⟩:=hcl;have TV:Loc S B N u xd (.agg #[.int .i64 kx,.string tx,.int .i64 mx,.slice ax nx cx]):=by obtain⟨yn,ln,_,_,h,_⟩:=hF;exact h
        have hc:=TV.nd.cell;have hcf:=TV.nd.frozen;have hcl:=TV.nd.lt;simp only [Value.cells] at hc;clear TV;have HF:=Z_ hF;clear hd hm hb hF;go_simp;exact hK'.out _ _ undef (by simp only [y1];rfl) trivial (Dl HF.out DK)
      case fin=>
       intro x vs w9 hl hF ah2;obtain⟨v0,v1,v2,v3,rfl⟩:=zG hl
       obtain⟨yn,ln,hT1,Nl,hL9,jV⟩:=hF;clear ah2 hl;replace HT:=Z_ (Out.aG HT.out hT1.out);replace aA:=Z_ Nl;replace HL:=Z_ hL9;clear hT1 Nl hL9;by_cases hk0:k=0
       ·subst hk0
        have HT0:=HT.out;clear HT;simp only [↓reduceIte] at HT0;have HT:=Z_ HT0;clear HT0;obtain⟨ky,ty,my,ay,ny,cy,rfl⟩:=cH HL.out.dat;have hc:=HL.out.nd.cell;simp only [Value.cells] at hc;have r0:=aA.out.res.cell;have rf:=aA.out.res.frozen;have rl:=aA.out.res.lt;unfold bK at r0;go_wp2_with fail
        refine bG rfl rfl rfl ((((aA.out.res.set 0 _).set 1 _).set 2 _).set 3 _) Tryz.underlying24 rfl (by kernel_rfl) ?_
        exact eM aA.out (qI B N) (HL.out.dat) (iR (by omega)) (fun i hi=>iR (by omega)) (HT.out.symm)
       ·have hk5:((k:Int) == 0)=false:=by simp;omega
        have HT0:=HT.out;clear HT;simp only [hk0,↓reduceIte] at HT0;have HT:=Z_ HT0;clear HT0;go_wp2_with fail
        go_roundg m
        case rel=>exact⟨ln,_,v2,by omega,jV,HT,aA,HL⟩
        case measure=>omega
     ·have Yl:(lv != (k:Int))=false:=by simp [hlv]
      have al7:(tk != 3)=true:=by simpa using htk
      have hno:¬ (tk=3∧lv=(k:Int)):=fun h=>htk h.1
      have HT0:=HT.out;clear HT;simp only [hno,↓reduceIte] at HT0;have HT:=Z_ HT0;clear HT0;have hc:=HL.out.nd.cell;simp only [Value.cells] at hc;have r0:=aA.out.res.cell;have rf:=aA.out.res.frozen;have rl:=aA.out.res.lt;unfold bK at r0;go_wp2_with fail
      refine bG rfl rfl rfl ((((aA.out.res.set 0 _).set 1 _).set 2 _).set 3 _) Tryz.underlying24 rfl (by kernel_rfl) ?_
      exact eM aA.out (qI B N) (HL.out.dat) (iR (by omega)) (fun i hi=>iR (by omega)) (HT.out.symm)
    ·have Yl:(lv != (k:Int))=true:=by simpa using hlv
     have hno:¬ (tk=3∧lv=(k:Int)):=fun h=>hlv h.2
     have HT0:=HT.out;clear HT;simp only [hno,↓reduceIte] at HT0;have HT:=Z_ HT0;clear HT0;have hc:=HL.out.nd.cell;simp only [Value.cells] at hc;have r0:=aA.out.res.cell;have rf:=aA.out.res.frozen;have rl:=aA.out.res.lt;unfold bK at r0;go_wp2_with fail
     refine bG rfl rfl rfl ((((aA.out.res.set 0 _).set 1 _).set 2 _).set 3 _) Tryz.underlying24 rfl (by kernel_rfl) ?_
     exact eM aA.out (qI B N) (HL.out.dat) (iR (by omega)) (fun i hi=>iR (by omega)) (HT.out.symm)
end bu
end Go.Proofs.YtpcihajmcejliacGreatDoor
