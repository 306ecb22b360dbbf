/- The walk of the checker's call: a call whose kids are done. -/
import Derived.Test.YtpcihajmcejliacGreatDoorSynC
import Derived.Test.YtpcihajmcejliacGreatDoorChkV
namespace Go.Proofs.YtpcihajmcejliacGreatDoor
open Go.RowKit
namespace chk
open bH fF
structure PrC (W:World) (p:aO) (p0 p1 p2 p3 p4 p5:Value):Prop where
 c0:p0=.string p.name
 c1:p1=.bool p.pub
 c2:∃ a c,p2=.slice a p.params.length c∧fN 1 jc W a p.params∧p.params.length≤c∧c≤maxLen
 c3:p3=.int .i64 p.writes
 c4:p4=.bool p.gives
 c5:p5=.int .i64 p.given
theorem Nk {l:List aO} {s:ByteArray} {k:Nat} (h:k<l.length):ru (l.take (k+1)) s=if l[k].name=s then some l[k] else ru (l.take k) s:=by
 unfold ru;rw [List.take_succ_eq_append_getElem h,List.foldl_append];rfl
def aa3 (W u0 u:World) (X:Nat) (k0 m0:Int) (kv:Value) (ref:ry) (l0 ctx:Int) (o:Option aO):Prop:=
 aB (fun i=>i=X) u0 u∧∃ p0 p1 p2 p3 p4 p5,aJ u X (lY k0 m0 kv ref p0 p1 p2 p3 p4 p5 l0 ctx) 345∧∀ p,o=some p→PrC W p p0 p1 p2 p3 p4 p5
def nD (w0:World) (z:Int) (ls:List Int) (n:Nat):List Value→World→Prop
 | [],u=>Ext w0 u
 | [v],u=>Ext w0 u∧∃ g,v=.slice (some ⟨g,0,none⟩) n n∧aJ u g (ls.map (.int .i64)).toArray 3
 | _,u=>fK z ls=true∧Ext w0 u
theorem nD.ext {w0:World} {z:Int} {ls:List Int} {n:Nat} {vs:List Value} {u:World} (h:nD w0 z ls n vs u):Ext w0 u:=by
 match vs,h with
 | [],h=>exact h
 | [_],h=>exact h.1
 | _::_::_,h=>exact h.2
theorem oQ {u:World} {g:Nat} {ls:List Int} {T:TypeId} (h:aJ u g (ls.map (.int .i64)).toArray T):fN 1 jc u (some ⟨g,0,none⟩) ls:=fun j hj=>⟨g,0,rfl,h.lt,by
 unfold jc;rw [h.cell];simp [hj]⟩
theorem rV {w0 u:World} {z:Int} {ls:List Int} {n:Nat} {cs:Array Value} (h:Ext w0 u) (hc:cs=(ls.map (.int .i64)).toArray):nD w0 z ls n [.slice (some ⟨u.heap.size,0,none⟩) n n] (u.alloc (.cells cs 3)):=by
 subst hc;exact⟨h.alloc _,_,rfl,aJ.made _ _ _⟩
def P9 (u:World) (X:Nat) (k0 m0:Int) (kv:Value) (ctx:Int) (T:Rz (ry×Int)) (e:Ending) (u':World):Prop:=aB (fun i=>i=X) u u'∧match T with
 | .bad c p=>e=.panicked (rB c (p:Nat))
 | .ok r=>e=.returned (.tuple #[])∧AB r.1∧∃ p0 p1 p2 p3 p4 p5,aJ u' X (lY k0 m0 kv r.1 p0 p1 p2 p3 p4 p5 r.2 ctx) 345
theorem Nl {ps:List Int} {ks:List Tr}:∀ {j:Nat} (h1:j<ps.length) (h2:j<ks.length),nZ (ps.take (j+1)) (ks.take (j+1))=(nZ (ps.take j) (ks.take j)&&fK ps[j] [ks[j].lab]):=by
 induction ps generalizing ks with
 | nil=>intro j h;cases h
 | cons p r ih=>
  intro j h1 h2;cases ks with
  | nil=>cases h2
  | cons k q=>
   cases j with
   | zero=>simp [nZ]
   | succ j=>
    simp only [List.take_succ_cons,nZ,List.getElem_cons_succ];rw [ih (by simpa using h1) (by simpa using h2),Bool.and_assoc]
theorem P_ {ps:List Int} {ks:List Tr}:∀ {j:Nat} (h1:j<ps.length) (h2:j<ks.length),fK ps[j] [ks[j].lab]=false→nZ ps ks=false:=by
 induction ps generalizing ks with
 | nil=>intro j h;cases h
 | cons p r ih=>
  intro j h1 h2 hb;cases ks with
  | nil=>cases h2
  | cons k q=>
   cases j with
   | zero=>
    rw [nZ];have hb':fK p [k.lab]=false:=hb;rw [hb'];rfl
   | succ j=>
    rw [nZ,ih (j:=j) (by simpa using h1) (by simpa using h2) (by simpa using hb),Bool.and_false]
set_option maxRecDepth 100000 in
set_option maxHeartbeats 8000000 in
theorem AK {W u:World} {C Mo D K P B:Nat} {E:eG} {vl:Value} {L:List Loc} {deep at_:Int} {eF fB:Value} {dc pc:Array Value} (h:CS W u C Mo D K P B E vl L deep at_ eF fB dc pc) (hmv:dG W) {X:Nat} {k0 m0 l0 ctx:Int} {ka:Option Addr} {kc:Nat} {ks:List Tr} {q0 q1 q2 q3 q4 q5:Value} {t:ByteArray} {n1:Int} {n2:Value} (alone:Bool) (p:Nat)
  (hX:aJ u X (lY k0 m0 (.slice ka ks.length kc) jo q0 q1 q2 q3 q4 q5 l0 ctx) 345) (hks:fN 1 Gt (hide (fun i=>decide (i=X)) u) ka ks) (hkc:ks.length≤kc) (hkn:ks.length≤1000) (ht:t.size≤10000) (hXW:W.heap.size≤X) (hXB:B≤X) (hn2:∃ a b c,n2=.slice a b c) :
  Calls Tryz.prog 338 #[.pointer (some ⟨C,0,none⟩),.agg #[.int .i64 18,.string t,.int .i64 n1,n2],.pointer (some ⟨X,0,none⟩),.int .i64 (p:Nat),.bool alone] u (P9 u X k0 m0 (.slice ka ks.length kc) ctx (uC E ctx alone t ks p)):=by
 obtain⟨T,hT⟩:∃ T,uC E ctx alone t ks p=T:=⟨_,rfl⟩;rw [hT];unfold uC at hT;obtain⟨na,nb,nc,rfl⟩:=hn2;have vG:=Z_ hks;have rC:=Z_ hmv;obtain⟨nk,hnk⟩:∃ nk,ks.length=nk:=⟨_,rfl⟩;rw [hnk] at hX hkc hkn ⊢;have HNK:=Z_ hnk;have hE0:=(aB.refl (fun _=>False) u).alloc (.cells #[.int .i64 18,.string t,.int .i64 n1,.slice na nb nc] 24);have HC:=Z_ (h.extend hE0);have HN:=Z_ (aJ.made u #[.int .i64 18,.string t,.int .i64 n1,.slice na nb nc] 24);have HX:=Z_ (hX.ext hE0);have HE:=Z_ hE0;have hXl:=hX.lt;obtain⟨N,hN⟩:∃ N,u.heap.size=N:=⟨_,rfl⟩;rw [hN] at HN hXl;clear hE0 h hX hks hmv hnk;go_enter Tryz.func338,Tryz.ntmps338
 go_upto_region 1 with (fail)
 try rw [hN]
 generalize u.alloc (.cells #[.int .i64 18,.string t,.int .i64 n1,.slice na nb nc] 24)=u1 at *;clear hN;have hnc:=HN.out.cell;go_wp2_with fail
 refine(Gu HC.out rC.out t ht).mono ?_
 rintro e w2 ⟨fv,rfl,hfa,hE2⟩;obtain⟨Q,hQ⟩:∃ Q,mV E t=Q:=⟨_,rfl⟩;have hns:=fun f s b e=>DF t ht (E:=E) (f:=f) (s:=s) (b:=b) (hQ.trans e)
 rw [hQ] at hfa hT ⊢;obtain⟨f,s,Qa⟩:=Q;have qI:=Z_ (hns f s Qa rfl);replace hfa:kL W f fv:=hfa;obtain⟨a9,m9,c9,d9,rfl,-,hva,hms,-,-,hd9,hd8⟩:=hfa;simp only at hT;have HT:=Z_ hT;have jq:=hE2.alloc (.cells #[.string f.modn,.slice a9 f.vars.length m9,.slice c9 f.procs.length d9] 37);have HF:=Z_ (aJ.made w2 #[.string f.modn,.slice a9 f.vars.length m9,.slice c9 f.procs.length d9] 37);have HV:=Z_ (fun (w:World) (hE:Ext W w)=>(hva.mono hE.size fun _ _ _ hb h=>jJ.ext hE hb h:fN 6 jJ w c9 f.procs));have HI:=Z_ hva;have yI:=Z_ (HC.out.extend jq);have HX3:=Z_ (HX.out.ext jq);have zu:=Z_ (HE.out.ext jq);have Gv:=Z_ hms;obtain⟨F,hF⟩:∃ F,w2.heap.size=F:=⟨_,rfl⟩;rw [hF] at HF;have HXF:=Z_ (show X<F by have h1:=HX.out.lt;have h2:=hE2.size;omega)
 have HWX:=Z_ hXW;have PS:=Z_ hXB;clear hE2 jq hva hT hms hnc HC HN HX HE hQ hns;go_upto_region 2 with (fail)
 try rw [hF]
 generalize w2.alloc (.cells #[.string f.modn,.slice a9 f.vars.length m9,.slice c9 f.procs.length d9] 37)=u3 at *;clear hF;have hfc:=HF.out.cell;obtain⟨np,hnp⟩:∃ np,f.procs.length=np:=⟨_,rfl⟩;rw [hnp] at hfc hd9;have AL:=Z_ hnp;obtain⟨fm,hfm⟩:∃ fm,f.modn=fm:=⟨_,rfl⟩;rw [hfm] at hfc;have Xz:=Z_ hfm;have az9:np≤9223372036854775807:=by unfold maxLen at hd8;omega
 clear hnp hfm;go_wp2_with fail
 clear hfc;go_loopw [13,30] (fun fd i wr=>∃ (k:Nat) (o:Option aO),k≤np∧i=.int .i64 (k:Nat)∧fd=.bool o.isSome∧Hid ((if Qa=true then ru (f.procs.take k) s else none)=o)∧Hid (aa3 W u3 wr X k0 m0 (.slice ka nk kc) jo l0 ctx o)) (fun _ i _=>np-(intOf i).toNat)
 case atStart=>exact⟨0,none,Nat.zero_le _,rfl,rfl,Z_ (by split<;>rfl),Z_ ⟨aB.refl _ _,_,_,_,_,_,_,HX3.out,fun p h=>by cases h⟩⟩
 case round=>
  obtain⟨k,o,hk,rfl,rfl,HO,Lh⟩:=hrel;have HF4:=Z_ (HF.out.aU Lh.out.1 (by have:=HXF.out;omega));have HW4:=Z_ (yI.out.ext.trans Lh.out.1 (fun i hi e=>by have:=HWX.out;omega));by_cases hlt:k<np
  ·have hki:(k:Int)<(np:Int):=by omega
   have hkd:decide ((k:Int)<(np:Int))=true:=by simpa using hki
   have hkl:k<f.procs.length:=by rw [AL.out];exact hlt
   obtain⟨b,o9,rfl,hb,hin⟩:=HI.out k hkl;obtain⟨b2,o2,e2,-,hin2⟩:=HV.out _ HW4.out k hkl;cases e2
   obtain⟨j0,j1,⟨pa,yJ,j2,j6,j7,j8⟩,-⟩:=hin;obtain⟨l0',l1,⟨pa',Gw,l2,-⟩,l3,l4,l5,-⟩:=hin2;have hpe:pa'=pa∧Gw=yJ:=by have:=(HW4.out.cell (p:=⟨b,o9+k*6+2,none⟩) hb id).symm.trans l2;rw [j2] at this;cases this;exact⟨rfl,rfl⟩
   obtain⟨rfl,rfl⟩:=hpe;have HST:=Z_ (Nk (s:=s) hkl);have qJ:=Z_ j6;generalize f.procs[k]=y at *;obtain⟨yn,yp,yl,yw,yg,yv⟩:=y;simp only at l0' l1 l2 l3 l4 l5 j6 j7;obtain⟨nl,hnl⟩:∃ nl,yl.length=nl:=⟨_,rfl⟩;rw [hnl] at l2;have Wh:=Z_ hnl;have HJ:=Z_ (And.intro j7 j8);clear j0 j1 j2 j6 j7 j8 hb hnl;obtain⟨Qb,p0,p1,p2,p3,p4,p5,Jn,Qc⟩:=Lh.out;have HP5:=Z_ (aJ.made wr #[.string yn,.bool yp,.slice pa' nl Gw,.int .i64 yw,.bool yg,.int .i64 yv] 68);have CZ:=Z_ (Jn.alloc (.cells #[.string yn,.bool yp,.slice pa' nl Gw,.int .i64 yw,.bool yg,.int .i64 yv] 68));have Np:=Z_ (Qb.alloc (.cells #[.string yn,.bool yp,.slice pa' nl Gw,.int .i64 yw,.bool yg,.int .i64 yv] 68));have HO5:=Z_ Qc;obtain⟨Pb,Lj⟩:∃ Pb,wr.heap.size=Pb:=⟨_,rfl⟩
   rw [Lj] at HP5;clear Qb Jn Qc Lh;go_upto_region 6 with (fail)
   try rw [Lj]
   generalize wr.alloc (.cells #[.string yn,.bool yp,.slice pa' nl Gw,.int .i64 yw,.bool yg,.int .i64 yv] 68)=u5 at *;clear l0' l1 l2 l3 l4 l5 Lj;have hpc:=HP5.out.cell;cases Qa with
   | false=>
    have HON:=Z_ (show (none:Option aO)=o by have h:=HO.out;rw [if_neg (by decide)] at h;exact h);go_wp2_with fail
    go_roundw
    case rel=>exact⟨k+1,o,by omega,by go_num,rfl,Z_ (by first|exact HON.out|(rw [if_neg (by decide)];exact HON.out)),Z_ ⟨Np.out,_,_,_,_,_,_,CZ.out,HO5.out⟩⟩
    case measure=>simp [intOf];omega
   | true=>
    have HON:=Z_ (show ru (f.procs.take k) s=o by have h:=HO.out;rw [if_pos rfl] at h;exact h);by_cases hns:yn=s
    ·have hb1:(yn.toList == s.toList)=true:=by rw [hns];simp
     have I_:=Z_ (show ru (f.procs.take (k+1)) s=some ⟨yn,yp,yl,yw,yg,yv⟩ by rw [HST.out,if_pos hns]);have Ja:=CZ.out.frozen;have hxl:=CZ.out.lt;have rD:=CZ.out.cell;unfold lY at rD;clear hns;go_wp2_with fail
     have oU:=Z_ ((((((CZ.out.set 8 (.string yn)).set 9 (.bool yp)).set 10 (.slice pa' nl Gw)).set 11 (.int .i64 yw)).set 12 (.bool yg)).set 13 (.int .i64 yv));have TV:=Z_ (aA (aA (aA (aA (aA (aA Np.out 8 (.string yn)) 9 (.bool yp)) 10 (.slice pa' nl Gw)) 11 (.int .i64 yw)) 12 (.bool yg)) 13 (.int .i64 yv));go_roundw
     case rel=>exact⟨k+1,some ⟨yn,yp,yl,yw,yg,yv⟩,by omega,by go_num,rfl,Z_ (by first|exact I_.out|(rw [if_pos rfl];exact I_.out)),Z_ ⟨TV.out,_,_,_,_,_,_,oU.out,fun p h=>by cases h;exact⟨rfl,rfl,⟨pa',Gw,by rw [Wh.out],qJ.out,HJ.out.1,HJ.out.2⟩,rfl,rfl,rfl⟩⟩⟩
     case measure=>simp [intOf];omega
    ·have hb1:(yn.toList == s.toList)=false:=by rw [ByteArray.toList_eq,ByteArray.toList_eq];simpa using fun e=>hns (ByteArray.ext (Array.toList_inj.1 e))
     have I_:=Z_ (show ru (f.procs.take (k+1)) s=o by rw [HST.out,if_neg hns];exact HON.out);clear hns;go_wp2_with fail
     go_roundw
     case rel=>exact⟨k+1,o,by omega,by go_num,rfl,Z_ (by first|exact I_.out|(rw [if_pos rfl];exact I_.out)),Z_ ⟨Np.out,_,_,_,_,_,_,CZ.out,HO5.out⟩⟩
     case measure=>simp [intOf];omega
  ·obtain rfl:k=np:=by omega
   have hkd:decide ((k:Int)<(k:Int))=false:=by simp
   have HO2:=Z_ (show (if Qa=true then ru f.procs s else none)=o by have h:=HO.out;rw [List.take_of_length_le (by rw [AL.out];exact Nat.le_refl _)] at h;exact h);have HT2:=Z_ (show Gx fm s ctx alone ks p o=T by have h:=HT.out;rw [HO2.out,Xz.out] at h;exact h);have Ez:=Z_ (fun (u':World) (hg:aB (fun i=>i=X) u3 u')=>(show aB (fun i=>i=X) u u' from(zu.out.weak fun _ _ e=>e.elim).then hg));clear HO HT HO2 HV HI;cases o with
   | none=>
    have vH:=Z_ (show T=.bad 4 p from HT2.out.symm);have hg0:=Ez.out _ Lh.out.1;go_wp2_with fail
    refine(iq 4 (p:Nat) _).mono ?_
    rintro e w8 ⟨rfl,rfl⟩;go_wp2_with fail
    exact⟨rfl,hg0,by rw [vH.out]⟩
   | some y=>
    obtain⟨Qb,p0,p1,p2,p3,p4,p5,Jn,Qc⟩:=Lh.out;obtain⟨rfl,rfl,⟨pa,yJ,rfl,hpi,hp1,hp2⟩,rfl,rfl,rfl⟩:=Qc _ rfl;obtain⟨yn,yp,yl,yw,yg,yv⟩:=y;simp only at hpi hp1 hp2 Jn;have qJ:=Z_ (fun (w:World) (hE:Ext W w)=>(hpi.mono hE.size fun _ _ _ hb h=>jc.ext hE hb h:fN 1 jc w pa yl));obtain⟨nl,hnl⟩:∃ nl,yl.length=nl:=⟨_,rfl⟩;rw [hnl] at hp1 Jn;have Wh:=Z_ hnl;have HT3:=Z_ (show (if nl≠nk then (.bad 6 p:Rz (ry×Int)) else if (yg || alone)=false then .bad 3 p else if nZ yl ks=false then .bad 7 p else if fK yw [ctx]=false then .bad 7 p else .ok (⟨-1,fm,s,0,0⟩,yv))=T by have h:=HT2.out;unfold Gx at h;simp only at h;rw [hnl,HNK.out] at h;exact h);have PT:=Z_ Jn;have XA:=Z_ Qb;clear hpi hnl Qb Jn Qc HT2 Lh;have rD:=PT.out.cell;have Ja:=PT.out.frozen
    have hxl:=PT.out.lt;unfold lY at rD;go_wp2_with fail
    refine(fO 4 (p:Nat) _).mono ?_
    rintro e w8 ⟨rfl,rfl⟩;have HQ7:=Z_ (aJ.made w8 #[.string yn,.bool yp,.slice pa nl yJ,.int .i64 yw,.bool yg,.int .i64 yv] 68);have F7:=Z_ (PT.out.alloc (.cells #[.string yn,.bool yp,.slice pa nl yJ,.int .i64 yw,.bool yg,.int .i64 yv] 68));have HG7:=Z_ (XA.out.alloc (.cells #[.string yn,.bool yp,.slice pa nl yJ,.int .i64 yw,.bool yg,.int .i64 yv] 68));have TW:=Z_ (HF4.out.alloc (.cells #[.string yn,.bool yp,.slice pa nl yJ,.int .i64 yw,.bool yg,.int .i64 yv] 68));obtain⟨Pb,Lj⟩:∃ Pb,w8.heap.size=Pb:=⟨_,rfl⟩;rw [Lj] at HQ7 hxl;go_upto_region 11 with (fail)
    try rw [Lj]
    generalize w8.alloc (.cells #[.string yn,.bool yp,.slice pa nl yJ,.int .i64 yw,.bool yg,.int .i64 yv] 68)=u7 at *;clear rD Ja Lj HF4 PT XA;have HXP:=Z_ (show X<Pb from hxl);have Ja:=F7.out.frozen;have hx7:=F7.out.lt;have rD:=F7.out.cell;unfold lY at rD;have hfc:=TW.out.cell;rw [Xz.out] at hfc;go_upto_region 12 with (fail)
    have Jb:=Z_ (((((F7.out.set 3 (.int .i64 (-1))).set 4 (.string fm)).set 5 (.string s)).set 6 (.int .i64 0)).set 7 (.int .i64 0));have Jb:=Z_ (show aJ _ X (lY k0 m0 (.slice ka nk kc) ⟨-1,fm,s,0,0⟩ (.string yn) (.bool yp) (.slice pa nl yJ) (.int .i64 yw) (.bool yg) (.int .i64 yv) l0 ctx) 345 from Jb.out);have Zy:=Z_ (aA (aA (aA (aA (aA HG7.out 3 (.int .i64 (-1))) 4 (.string fm)) 5 (.string s)) 6 (.int .i64 0)) 7 (.int .i64 0));have HQ8:=Z_ (HQ7.out.aU (aA (aA (aA (aA (aA (aB.refl (fun i=>i=X) u7) 3 (.int .i64 (-1))) 4 (.string fm)) 5 (.string s)) 6 (.int .i64 0)) 7 (.int .i64 0)) (by have:=HXP.out;omega));clear Ja hx7 rD hfc F7 HG7 HQ7 TW hxl;generalize ((((u7.setCell ⟨X,3,none⟩ (.int .i64 (-1))).setCell ⟨X,4,none⟩ (.string fm)).setCell ⟨X,5,none⟩ (.string s)).setCell ⟨X,6,none⟩ (.int .i64 0)).setCell ⟨X,7,none⟩ (.int .i64 0)=u8 at *
    have rD:=Jb.out.cell;unfold lY at rD;have hqc:=HQ8.out.cell;by_cases hlk:nl=nk
    ·subst hlk
     have hle:((nl:Int) == (nl:Int))=true:=by simp
     have hle2:(nl == nl)=true:=by simp
     have HT4:=Z_ (show (if (yg || alone)=false then (.bad 3 p:Rz (ry×Int)) else if nZ yl ks=false then .bad 7 p else if fK yw [ctx]=false then .bad 7 p else .ok (⟨-1,fm,s,0,0⟩,yv))=T by have h:=HT3.out;rw [if_neg (fun h=>h rfl)] at h;exact h);clear HT3;go_still_tail 10,(by kernel_rfl)
     go_wp2_with fail
     refine(fO 6 (p:Nat) _).mono ?_
     rintro e w9 ⟨rfl,rfl⟩;have oU:=Z_ (show aJ u8.drew X _ _ from Jb.out);have HQ9:=Z_ (show aJ u8.drew Pb _ _ from HQ8.out);have TV:=Z_ (Zy.out.drew);clear rD hqc Jb HQ8 Zy hle hle2;generalize u8.drew=u9 at *;by_cases hga:(yg || alone)=true
     ·have TY:=Z_ (show (if nZ yl ks=false then (.bad 7 p:Rz (ry×Int)) else if fK yw [ctx]=false then .bad 7 p else .ok (⟨-1,fm,s,0,0⟩,yv))=T by have h:=HT4.out;rw [if_neg (by rw [hga];decide)] at h;exact h)
      have hqc:=HQ9.out.cell;have rD:=oU.out.cell;unfold lY at rD;have hkey:yg=true∨(yg=false∧alone=true):=by cases yg<;>simp_all
      clear hga HT4;go_upto_region 13 with (fail)
      go_cut [] (fun w'=>w'=u9)
      case first=>
       rcases hkey with rfl|⟨rfl,rfl⟩
       all_goals
        go_wp2_with fail
        refine(fO 3 (p:Nat) _).mono ?_
        rintro e w9 ⟨rfl,rfl⟩;go_wp2_with fail
        go_meet
        exact rfl
      case rest=>
       clear hkey;generalize wc=w9 at *;subst hcut;go_wp2_with fail
       clear hqc rD;go_loopw [83] (fun i wr=>∃ j:Nat,j≤nl∧i=.int .i64 (j:Nat)∧Hid (nZ (yl.take j) (ks.take j)=true)∧Hid (Ext w9 wr)) (fun i _=>nl-(intOf i).toNat)
       case atStart=>exact⟨0,Nat.zero_le _,rfl,Z_ (by simp [nZ]),Z_ (aB.refl _ _)⟩
       case round=>
        obtain⟨j,hj,rfl,HA,HZ⟩:=hrel;have CZ:=Z_ (oU.out.ext HZ.out);have Wi:=Z_ (HQ9.out.ext HZ.out);by_cases hlt:j<nl
        ·have hji:(j:Int)<(nl:Int):=by omega
         have hjd:decide ((j:Int)<(nl:Int))=true:=by simpa using hji
         have h1:j<yl.length:=by rw [Wh.out];exact hlt
         have h2:j<ks.length:=by rw [HNK.out];exact hlt
         obtain⟨pb,po,rfl,hpb,Gy⟩:=qJ.out wr (yI.out.ext.trans (TV.out.ext HZ.out) (fun i hi e=>by have:=HWX.out;omega)) j h1;obtain⟨kb,ko,rfl,hkb,aa5⟩:=vG.out j h2;have Wj:=ou (aN (M:=fun i=>decide (i=X)) (Ez.out _ (TV.out.ext HZ.out)) fun i _ e=>by simp [e]) _ _ _ aa5;obtain⟨v9,hv9,hta⟩:=ou (aC _ _) _ _ _ Wj;obtain⟨g2,a2,c2,r0,r1,r2,r3,r4,r5,rfl,hg2,hc2,-⟩:=rW hta;have q14:wr.cell? ⟨g2,14,none⟩=some (.int .i64 ks[j].lab):=hc2 14 (by decide);have zx:=Z_ (Nl h1 h2);have Qd:=Z_ (P_ h1 h2);unfold jc at Gy;rw [Nat.mul_one] at Gy hv9;generalize yl[j]=y at Gy zx Qd;generalize ks[j].lab=z at q14 zx Qd;clear hc2 hta aa5 Wj h1 h2;go_upto_region 17 with (fail)
         refine aj [10,11] (fun i v _=>v=([.int .i64 (p:Nat),.pointer (some ⟨Pb,2,none⟩),.slice (some ⟨pb,po,none⟩) nl yJ,.int .i64 (j:Nat),.pointer (some ⟨pb,po+j,none⟩),.int .i64 y,.pointer (some ⟨g2,0,none⟩),.pointer (some ⟨g2,0,none⟩),.pointer (some ⟨g2,14,none⟩),.int .i64 z,undef,undef]:List Value).getD i undef) (nD wr y [z] 1) (fun _ _=>True) (frame:=?aq6) (fun x=>?XB) bH.mixed (by kernel_rfl) (by kernel_rfl) (fun _ _ _ _ h _=>h) ?h0k ?stk ?XC
         case XB=>
          simp only [chain.aS,chain.fill,chain.bT,chain.bC,oV,oW,oZ,o5,o6,o7,o8,o_,pq];exact rfl
         case h0k=>exact(aB.refl _ _).drew
         case stk=>
          iterate 12 (refine ak.cons (fun x vs u hF hm hb hd K' hK'=>?_) ?_;rotate_left)
          exact ak.nil
          ·have HF:=Z_ hF;clear hd hm hb hF;go_simp;exact hK'.out _ _ _ (rfl) trivial ⟨rfl,HF.out⟩
          ·have HF:=Z_ hF;clear hd hm hb hF;go_simp;exact hK'.out _ _ _ (rfl) trivial ⟨rfl,HF.out⟩
          ·have ju:=nD.ext hF;have hq:=(Wi.out.ext ju).cell;clear ju;have y0:x 89=.pointer (some ⟨Pb,2,none⟩):=(D_ hd 1 :);have HF:=Z_ hF;clear hd hm hb hF;go_simp;exact hK'.out _ _ _ (by simp only [y0];rfl) trivial ⟨rfl,HF.out⟩
          ·have HF:=Z_ hF;clear hd hm hb hF;go_simp;exact hK'.out _ _ _ (rfl) trivial ⟨rfl,HF.out⟩
          ·have y0:x 90=.slice (some ⟨pb,po,none⟩) nl yJ:=(D_ hd 2 :);have y1:x 91=.int .i64 (j:Nat):=(D_ hd 3 :);have HF:=Z_ hF;clear hd hm hb hF;go_simp;exact hK'.out _ _ _ (by simp only [y0,y1];rfl) trivial ⟨rfl,HF.out⟩
          ·have ju:=nD.ext hF;have hq:=(ju.cell (p:=⟨pb,po+j,none⟩) hpb id).trans Gy;clear ju;have y0:x 92=.pointer (some ⟨pb,po+j,none⟩):=(D_ hd 4 :);have HF:=Z_ hF;clear hd hm hb hF;go_simp;exact hK'.out _ _ _ (by simp only [y0];rfl) trivial ⟨rfl,HF.out⟩
          ·have HF:=Z_ hF;clear hd hm hb hF;go_simp;exact hK'.out _ _ _ (rfl) trivial ⟨rfl,HF.out⟩
          ·have y0:x 94=.pointer (some ⟨g2,0,none⟩):=(D_ hd 6 :);have HF:=Z_ hF;clear hd hm hb hF;go_simp;exact hK'.out _ _ _ (by simp only [y0];rfl) trivial ⟨rfl,HF.out⟩
          ·have y0:x 95=.pointer (some ⟨g2,0,none⟩):=(D_ hd 7 :);have HF:=Z_ hF;clear hd hm hb hF;go_simp;exact hK'.out _ _ _ (by simp only [y0];rfl) trivial ⟨rfl,HF.out⟩
          ·have ju:=nD.ext hF;have hq:=(ju.cell (p:=⟨g2,14,none⟩) hg2 id).trans q14;clear ju;have y0:x 96=.pointer (some ⟨g2,14,none⟩):=(D_ hd 8 :);have HF:=Z_ hF;clear hd hm hb hF;go_simp;exact hK'.out _ _ _ (by simp only [y0];rfl) trivial ⟨rfl,HF.out⟩
          ·obtain rfl:=pR hm;have y0:x 97=.int .i64 z:=(D_ hd 9 :);have HF:=Z_ hF;clear hd hm hb hF;go_simp;exact hK'.out _ _ _ (by simp only [y0];rfl) trivial (rV HF.out rfl)
          ·obtain⟨v0,rfl⟩:=rE hm
           have y0:x 88=.int .i64 (p:Nat):=(D_ hd 0 :);have y1:x 93=.int .i64 y:=(D_ hd 5 :);have y2:x 98=v0:=((D_ hd 10) 98 (by kernel_rfl) :);obtain⟨vI,g9,rfl,AO⟩:=hF;have Af:=Z_ (show Calls Tryz.prog 283 #[.int .i64 (p:Nat),.int .i64 (y),.slice (some ⟨g9,0,none⟩) 1 1] u (nG (y) [z] (p:Nat) u) from mW (p:Nat) (y) (some ⟨g9,0,none⟩) 1 [z] u (oQ AO) (Nat.le_refl _) (by simp));have Jo:=Z_ vI;clear hd hm hb vI AO;go_simp;refine Af.out.mono ?_
           rintro e u2 ⟨hy1,hy2,rfl⟩;cases hfl:fK (y) [z] with
           | true=>
            obtain rfl:=hy1 hfl;exact hK'.out _ _ _ (by simp only [y0,y1,y2];rfl) trivial ⟨hfl,Jo.out⟩
           | false=>
            obtain rfl:=hy2 hfl;go_wp2_with fail
            exact⟨rfl,(Ez.out _ ((TV.out.ext HZ.out).ext Jo.out)),by rw [←TY.out,if_pos (Qd.out hfl)]⟩
         case XC=>
          intro x9 wJ w9 hl hF hk9;obtain⟨v0,v1,rfl⟩:=Ll hl
          obtain⟨hfl,vI⟩:=hF;have Jo:=Z_ vI;have HAJ:=Z_ (show nZ (yl.take (j+1)) (ks.take (j+1))=true by rw [zx.out,HA.out,hfl];rfl);clear hk9 hl hfl vI;go_wp2_with fail
          go_roundw
          case rel=>exact⟨j+1,by omega,by go_num,HAJ,Z_ (HZ.out.ext Jo.out)⟩
          case measure=>simp [intOf];omega
        ·obtain rfl:j=nl:=by omega
         have hjd:decide ((j:Int)<(j:Int))=false:=by simp
         have Zz:=Z_ (show (if fK yw [ctx]=false then (.bad 7 p:Rz (ry×Int)) else .ok (⟨-1,fm,s,0,0⟩,yv))=T by
          have h:=TY.out;have h3:=HA.out;rw [List.take_of_length_le (by rw [Wh.out];exact Nat.le_refl _),List.take_of_length_le (by rw [HNK.out];exact Nat.le_refl _)] at h3;rw [if_neg (by rw [h3];decide)] at h;exact h)
         go_upto_region 19 with (fail)
         refine aj [7,8] (fun i v _=>v=([.int .i64 (p:Nat),.pointer (some ⟨Pb,3,none⟩),.int .i64 yw,.pointer (some ⟨X,0,none⟩),.pointer (some ⟨X,0,none⟩),.pointer (some ⟨X,15,none⟩),.int .i64 ctx,undef,undef]:List Value).getD i undef) (nD wr yw [ctx] 1) (fun _ _=>True) (frame:=?aq7) (fun x=>?XD) bH.mixed (by kernel_rfl) (by kernel_rfl) (fun _ _ _ _ h _=>h) ?h0w ?stw ?XE
         case XD=>
          simp only [chain.aS,chain.fill,chain.bT,chain.bC,oV,oW,oZ,o5,o6,o7,o8,o_,pq];exact rfl
         case h0w=>exact(aB.refl _ _).drew
         case stw=>
          iterate 9 (refine ak.cons (fun x vs u hF hm hb hd K' hK'=>?_) ?_;rotate_left)
          exact ak.nil
          ·have HF:=Z_ hF;clear hd hm hb hF;go_simp;exact hK'.out _ _ _ (rfl) trivial ⟨rfl,HF.out⟩
          ·have HF:=Z_ hF;clear hd hm hb hF;go_simp;exact hK'.out _ _ _ (rfl) trivial ⟨rfl,HF.out⟩
          ·have ju:=nD.ext hF;have hq:=(Wi.out.ext ju).cell;clear ju;have y0:x 102=.pointer (some ⟨Pb,3,none⟩):=(D_ hd 1 :);have HF:=Z_ hF;clear hd hm hb hF;go_simp;exact hK'.out _ _ _ (by simp only [y0];rfl) trivial ⟨rfl,HF.out⟩
          ·have HF:=Z_ hF;clear hd hm hb hF;go_simp;exact hK'.out _ _ _ (rfl) trivial ⟨rfl,HF.out⟩
          ·have y0:x 104=.pointer (some ⟨X,0,none⟩):=(D_ hd 3 :);have HF:=Z_ hF;clear hd hm hb hF;go_simp;exact hK'.out _ _ _ (by simp only [y0];rfl) trivial ⟨rfl,HF.out⟩
          ·have y0:x 105=.pointer (some ⟨X,0,none⟩):=(D_ hd 4 :);have HF:=Z_ hF;clear hd hm hb hF;go_simp;exact hK'.out _ _ _ (by simp only [y0];rfl) trivial ⟨rfl,HF.out⟩
          ·have ju:=nD.ext hF;have hq:=(CZ.out.ext ju).cell;unfold lY at hq;clear ju;have y0:x 106=.pointer (some ⟨X,15,none⟩):=(D_ hd 5 :);have HF:=Z_ hF;clear hd hm hb hF;go_simp;exact hK'.out _ _ _ (by simp only [y0];rfl) trivial ⟨rfl,HF.out⟩
          ·obtain rfl:=pR hm;have y0:x 107=.int .i64 ctx:=(D_ hd 6 :);have HF:=Z_ hF;clear hd hm hb hF;go_simp;exact hK'.out _ _ _ (by simp only [y0];rfl) trivial (rV HF.out rfl)
          ·obtain⟨v0,rfl⟩:=rE hm
           have y0:x 101=.int .i64 (p:Nat):=(D_ hd 0 :);have y1:x 103=.int .i64 yw:=(D_ hd 2 :);have y2:x 108=v0:=((D_ hd 7) 108 (by kernel_rfl) :);obtain⟨vI,g9,rfl,AO⟩:=hF;have Af:=Z_ (show Calls Tryz.prog 283 #[.int .i64 (p:Nat),.int .i64 (yw),.slice (some ⟨g9,0,none⟩) 1 1] u (nG (yw) [ctx] (p:Nat) u) from mW (p:Nat) (yw) (some ⟨g9,0,none⟩) 1 [ctx] u (oQ AO) (Nat.le_refl _) (by simp));have Jo:=Z_ vI;clear hd hm hb vI AO;go_simp;refine Af.out.mono ?_
           rintro e u2 ⟨hy1,hy2,rfl⟩;cases hfl:fK (yw) [ctx] with
           | true=>
            obtain rfl:=hy1 hfl;exact hK'.out _ _ _ (by simp only [y0,y1,y2];rfl) trivial ⟨hfl,Jo.out⟩
           | false=>
            obtain rfl:=hy2 hfl;go_wp2_with fail
            exact⟨rfl,(Ez.out _ ((TV.out.ext HZ.out).ext Jo.out)),by rw [←Zz.out,if_pos hfl]⟩
         case XE=>
          intro x9 wJ w9 hl hF hk9;obtain⟨v0,v1,rfl⟩:=Ll hl
          obtain⟨hfl,vI⟩:=hF;have PT:=Z_ (CZ.out.ext vI);have XA:=Z_ (((TV.out.ext HZ.out).ext vI));have hqc:=(Wi.out.ext vI).cell;have Ja:=PT.out.frozen;have hxl:=PT.out.lt;have rD:=PT.out.cell;unfold lY at rD;have XF:=Z_ (show T=.ok (⟨-1,fm,s,0,0⟩,yv) by rw [←Zz.out,if_neg (by rw [hfl];decide)]);clear hk9 hl hfl vI;go_wp2_with fail
          go_end0
          have F7:=Z_ (PT.out.set 14 (.int .i64 yv));refine⟨Ez.out _ (aA XA.out 14 (.int .i64 yv)),?_⟩
          rw [XF.out];exact⟨rfl,⟨by show fm.size≤maxLen;rw [←Xz.out];exact Gv.out,qI.out⟩,_,_,_,_,_,_,F7.out⟩
     ·obtain⟨rfl,rfl⟩:yg=false∧alone=false:=by cases yg<;>cases alone<;>simp_all
      have vH:=Z_ (show T=.bad 3 p by have h:=HT4.out;first|exact h.symm|(rw [if_pos rfl] at h;exact h.symm)|(simp at h;exact h.symm));have hg0:=Ez.out _ TV.out;have hqc:=HQ9.out.cell;clear HT4 hga;go_wp2_with fail
      refine(iq 3 (p:Nat) _).mono ?_
      rintro e w9 ⟨rfl,rfl⟩;go_wp2_with fail
      exact⟨rfl,hg0,by rw [vH.out]⟩
    ·have hle:((nl:Int) == (nk:Int))=false:=beq_eq_false_iff_ne.2 (by omega)
     have hle2:(nl == nk)=false:=beq_eq_false_iff_ne.2 hlk;have vH:=Z_ (show T=.bad 6 p by have h:=HT3.out;rw [if_pos hlk] at h;exact h.symm);have hg0:=Ez.out _ Zy.out;clear HT3 hlk;go_still_tail 10,(by kernel_rfl)
     go_wp2_with fail
     refine(iq 6 (p:Nat) _).mono ?_
     rintro e w9 ⟨rfl,rfl⟩;go_wp2_with fail
     exact⟨rfl,hg0.drew,by rw [vH.out]⟩
end chk
end Go.Proofs.YtpcihajmcejliacGreatDoor
