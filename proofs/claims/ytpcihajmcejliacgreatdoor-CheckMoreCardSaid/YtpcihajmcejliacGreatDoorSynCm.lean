/- The walk of the program's parser: name, whole, number. A region that draws its order, by what each of its operations comes to: whatever order is drawn, no order is walked. Every operation leaves what was there. A region that draws its order whose operations that turn the world wait for one another: it is as if they were done in the text's order. A region that draws its order: operations that turn what lies there wait for one another; those that only make memory, or only look, may come anywhere between. The parser: a node that is being built, and a kid that is appended to it. The parser: what a function of it stands in, a node in a local variable, and how a node is told. -/
import Derived.Deep.RegionHeld
import Derived.Deep.AppendLies
import Derived.Deep.LoopGhost
import Derived.Test.YtpcihajmcejliacGreatDoorNamem
import Derived.Test.YtpcihajmcejliacGreatDoorLexNumm
namespace Go.Proofs.YtpcihajmcejliacGreatDoor
open Go.RowKit
namespace bn
set_option maxRecDepth 100000 in
set_option maxHeartbeats 1000000 in
theorem name_any {W w:World} {S E:Nat} {l:List Tk} (h:bu W w S E l) (hm:dw W) :
  Calls Tryz.prog 96 #[.pointer (some ⟨S,0,none⟩)] w (dZ U3 W w S E (fJ l)):=by
 have HC:=Z_ (nN h);have xg:=Z_ (fun (u:World) (hE:Ext w u)=>wA (h.extend hE));have HP:=Z_ (fun (u:World) (hE:Ext w u)=>h.extend hE);have HM:=Z_ (fun (u:World) (hE:Ext w u)=>hm.ext (h.ext.ext hE));cases l with
 | nil=>
  have HT:=Z_ (show fJ []=.bad [] from rfl);generalize fJ []=T at *;simp only [rK] at HC;clear h HP HM;go_enter Tryz.func96,Tryz.ntmps96
  go_wp2_with fail
  refine HC.out.mono ?_
  rintro e w1 ⟨rfl,hE⟩;unfold Gh;have hE2:=hE.alloc (.cells #[.int .i64 0,.string ⟨#[]⟩,.int .i64 E] 195);have nY:=Z_ hE2;have HF:=Z_ (xg.out _ hE2);go_wp2_with fail
  refine HF.out.mono ?_
  rintro e w2 ⟨rfl,qW⟩;go_wp2_with fail
  exact⟨rfl,dZ.fails (mV (nY.out.ext qW) S) HT.out⟩
 | cons t r=>
  have ho:=Ey h;obtain⟨tk,tt,ta⟩:=t;simp only [rK] at HC;have HT:=Z_ (show fJ (⟨tk,tt,ta⟩::r)=if tk=1∧iW.contains tt.data.toList=false then .got tt r else .bad (⟨tk,tt,ta⟩::r) from rfl);generalize fJ (⟨tk,tt,ta⟩::r)=T at *;by_cases hk:tk=1
  ·subst hk
   have hw:=ho.word rfl;have hs:=ho.size;simp only at hw hs;have hcw:=name.pz _ hw;obtain⟨R,hR⟩:∃ R,iW.contains tt.data.toList=R:=⟨_,rfl⟩;rw [hR] at hcw;have HCW:=Z_ hcw;have HT2:=Z_ (show T=if R=false then .got tt r else .bad (⟨1,tt,ta⟩::r) by have:=HT.out;rw [hR] at this;simpa using this);have lM:=Z_ hs;clear h hw hcw hR HT ho;go_enter Tryz.func96,Tryz.ntmps96
   go_wp2_with fail
   refine HC.out.mono ?_
   rintro e w1 ⟨rfl,hE⟩;unfold Gh;have hA:=aH.made w1 #[.int .i64 1,.string tt,.int .i64 ta] 195;have hE2:=hE.alloc (.cells #[.int .i64 1,.string tt,.int .i64 ta] 195);obtain⟨m,hm2⟩:=HM.out _ hE2;have hsub:((⟨#[32]⟩:ByteArray)++tt++⟨#[32]⟩).data.toList=32::(tt.data.toList ++ [32]):=by simp [ByteArray.data_append]
   have cc:=Tryz.strings_Contains ⟨#[32,100,111,32,101,108,115,101,32,103,105,118,101,115,32,104,105,103,104,32,105,102,32,105,109,112,111,114,116,32,105,110,32,108,111,119,32,109,111,100,117,108,101,32,111,117,116,32,112,114,111,99,32,112,117,98,32,114,101,116,117,114,110,32,119,104,105,108,101,32]⟩ ((⟨#[32]⟩:ByteArray)++tt++⟨#[32]⟩) m _ (by decide) hm2;rw [hsub] at cc;have CC:=Z_ cc;have nY:=Z_ hE2;have HA:=Z_ hA;clear cc hm2 hsub hE hE2 hA;go_wp2_with fail
   refine CC.out.mono ?_
   rintro e w' ⟨rfl,rfl⟩;rw [HCW.out];cases R with
   | true=>
    have HF:=Z_ (xg.out _ nY.out);go_wp2_with fail
    refine HF.out.mono ?_
    rintro e w2 ⟨rfl,qW⟩;go_wp2_with fail
    exact⟨rfl,dZ.fails (mV (nY.out.ext qW) S) (by simpa using HT2.out)⟩
   | false=>
    obtain⟨k,hk,hk2,oN⟩:=uH (HP.out _ nY.out);obtain⟨a',n',c',k',hB,-,-⟩:=wu (HP.out _ nY.out);have QN:w1.heap.size≠S:=by have:=(HP.out _ nY.out).lt;have h7:=HA.out.lt;intro e;subst e;have:=HA.out.cell 1;rw [hk] at this;cases this
    have hf:=hB.frozen 1;have hSl:=hB.lt;have hA2:=HA.out.setOther (p:=⟨S,1,none⟩) QN (.int .i64 ((k:Int)+1));have hc1:=hA2.cell 1;have hkw:IntKind.i64.wrap ((k:Int)+1)=(k:Int)+1:=by unfold IntKind.wrap;simp only [IntKind.bits,IntKind.signed];simp;omega
    have HP2:=Z_ oN;clear oN hB hA2;go_wp2_with fail
    go_ret
    exact dZ.reads (ak (mV nY.out S) 1 _) (by simpa using HT2.out) ⟨rfl,by have:=lM.out;omega⟩ HP2.out
  ·have hk2:(tk != 1)=true:=by simpa using hk
   have HT2:=Z_ (show T=.bad (⟨tk,tt,ta⟩::r) by have:=HT.out;rw [if_neg (fun h=>hk h.1)] at this;exact this);clear h HP HM HT ho;go_enter Tryz.func96,Tryz.ntmps96
   go_wp2_with fail
   refine HC.out.mono ?_
   rintro e w1 ⟨rfl,hE⟩;unfold Gh;have hE2:=hE.alloc (.cells #[.int .i64 tk,.string tt,.int .i64 ta] 195);have nY:=Z_ hE2;have HF:=Z_ (xg.out _ hE2);go_wp2_with fail
   refine HF.out.mono ?_
   rintro e w2 ⟨rfl,qW⟩;go_wp2_with fail
   exact⟨rfl,dZ.fails (mV (nY.out.ext qW) S) HT2.out⟩
theorem iI (l:List Tk):fJ l≠.out:=by
 cases l with
 | nil=>intro h;cases h
 | cons t r=>
  simp only [fJ,ne_eq];split<;>simp
theorem dh (s:ByteArray) (l:List Tk):dU s l≠.out:=by unfold dU;split<;>intro h<;>cases h
theorem iZ (l:List Tk):dF l≠.out:=by
 unfold dF;split
 ·intro h;cases h
 ·unfold dU;split<;>intro h<;>cases h
theorem qg (l:List Tk):iL l≠.out:=by
 unfold iL;intro h;cases hn:fJ l with
 | out=>exact iI _ hn
 | bad l2=>rw [hn] at h;cases h
 | got s l2=>
  rw [hn] at h;simp only [Out.bind] at h;split at h
  ·cases hn2:fJ l2.tail with
   | out=>exact iI _ hn2
   | bad l3=>rw [hn2] at h;cases h
   | got s3 l3=>rw [hn2] at h;cases h
  ·cases h
theorem wP {l r:List Tk} {s:ByteArray} {W w:World} {S E:Nat} (hP:bu W w S E l) (h:fJ l=.got s r):s.size≤3000:=by
 cases l with
 | nil=>cases h
 | cons t q=>
  simp only [fJ] at h;split at h
  ·injection h with h1 h2
   subst h1;exact(Ey hP).size
  ·cases h
set_option maxRecDepth 100000 in
set_option maxHeartbeats 1000000 in
theorem p_ {W w:World} {S E:Nat} {l:List Tk} (h:bu W w S E l) (hm:dw W) :
  Calls Tryz.prog 333 #[.pointer (some ⟨S,0,none⟩)] w (dZ U3 W w S E (iL l)):=by
 have HC:=Z_ (name_any h hm);have HM:=Z_ hm;have lM:=Z_ (fun s r=>wP (s:=s) (r:=r) h);obtain⟨T,hT⟩:∃ T,iL l=T:=⟨_,rfl⟩;rw [hT];unfold iL at hT;have HT:=Z_ hT;clear h hm hT;go_enter Tryz.func333,Tryz.ntmps333
 go_wp2_with fail
 refine HC.out.mono ?_
 rintro e w1 hr;obtain⟨Dq,⟨l1,hp,rfl⟩|⟨s,l1,v,hp,rfl,⟨rfl,hs⟩,hP1⟩⟩:=hr.cases (iI l)
 ·have HF:=Z_ (Out.aF HT.out hp)
  have J9:=Z_ Dq;clear hr hp Dq;go_wp2_with fail
  exact⟨rfl,dZ.fails J9.out HF.out⟩
 ·have HT1:=Z_ (Out.aG HT.out hp)
  have hsz:=lM.out _ _ hp;have J9:=Z_ Dq;have HH:=Z_ (cZ hP1 Gf);clear hr hp Dq HC HT lM hP1;generalize fO l1 [Gf]=R at *;go_wp2_with fail
  refine HH.out.mono ?_
  rintro e w2 ⟨rfl,hC2,oN⟩;have HC2:=Z_ (J9.out.then hC2);cases R with
  | false=>
   have HP2:=Z_ (show bu W w2 S E l1 by simpa using oN);have HF:=Z_ (show T=.got s l1 by have:=HT1.out;simpa using this.symm);clear oN hC2;go_wp2_with fail
   go_ret
   exact dZ.reads HC2.out HF.out ⟨rfl,by omega⟩ HP2.out
  | true=>
   have GI:bu W w2 S E l1.tail:=by simpa using oN
   have HT2:=Z_ (show (fJ l1.tail).bind (fun t l=>.got (s++(Gf++t)) l)=T by have:=HT1.out;simpa using this);have HN:=Z_ (name_any GI HM.out);have lM:=Z_ (fun s r=>wP (s:=s) (r:=r) GI);clear oN GI hC2;go_wp2_with fail
   refine HN.out.mono ?_
   rintro e w3 hr;obtain⟨nB,⟨l3,hp,rfl⟩|⟨s3,l3,v,hp,rfl,⟨rfl,hs3⟩,GI⟩⟩:=hr.cases (iI l1.tail)
   ·have HF:=Z_ (Out.aF HT2.out hp)
    have wV:=Z_ (HC2.out.then nB);clear hr hp nB;go_wp2_with fail
    exact⟨rfl,dZ.fails wV.out HF.out⟩
   ·have HF:=Z_ (Out.aG HT2.out hp)
    have hsz3:=lM.out _ _ hp;have wV:=Z_ (HC2.out.then nB);have RF:=Z_ GI;have hz1:((⟨#[46]⟩:ByteArray)++s3).size=1+s3.size:=by rw [ByteArray.size_append];rfl
    have hz2:(s++((⟨#[46]⟩:ByteArray)++s3)).size=s.size+(1+s3.size):=by rw [ByteArray.size_append,hz1]
    have HZ:=Z_ hz2;clear hr hp nB GI hz2;go_wp2_with fail
    go_ret
    exact dZ.reads wV.out HF.out.symm ⟨rfl,by show (s++((⟨#[46]⟩:ByteArray)++s3)).size≤7000;rw [HZ.out];omega⟩ RF.out
set_option maxRecDepth 100000 in
set_option maxHeartbeats 1000000 in
theorem lD {W w:World} {S E:Nat} {l:List Tk} (h:bu W w S E l) :
  Calls Tryz.prog 178 #[.pointer (some ⟨S,0,none⟩)] w (dZ (fun x v w'=>fE (hide (below w.heap.size) w') x v) W w S E (fD l)):=by
 have oH:=(aB.refl (fun _=>False) w).alloc (.cells #[.int .i64 0,.string ⟨#[]⟩,.int .i64 0,.slice none 0 0] 24);have HA:=Z_ (aH.made w #[.int .i64 0,.string ⟨#[]⟩,.int .i64 0,.slice none 0 0] 24);have HC:=Z_ (nN (h.extend oH));have xg:=Z_ (fun (u:World) (hE:Ext w u)=>wA (h.extend hE));have HP:=Z_ (fun (u:World) (hE:Ext w u)=>h.extend hE);have HX0:=Z_ oH;have hSw:=h.lt;have hWw:=h.ext.size;cases l with
 | nil=>
  have HT:=Z_ (show fD []=.bad [] from rfl);generalize fD []=T at *;simp only [rK] at HC;clear h HP oH;go_enter Tryz.func178,Tryz.ntmps178
  go_wp2_with fail
  refine HC.out.mono ?_
  rintro e w1 ⟨rfl,hE⟩;unfold Gh;have hE2:=(HX0.out.ext hE).alloc (.cells #[.int .i64 0,.string ⟨#[]⟩,.int .i64 E] 195);have nY:=Z_ hE2;have HF:=Z_ (xg.out _ hE2);clear hE hE2;go_wp2_with fail
  refine HF.out.mono ?_
  rintro e w2 ⟨rfl,qW⟩;go_wp2_with fail
  exact⟨rfl,dZ.fails (mV (nY.out.ext qW) S) HT.out⟩
 | cons t r=>
  have ho:=Ey h;obtain⟨tk,tt,ta⟩:=t;simp only [rK] at HC;have HT:=Z_ (show fD (⟨tk,tt,ta⟩::r)=if tk=2 then .got (.mk 15 aS (valOf tt) []) r else .bad (⟨tk,tt,ta⟩::r) from rfl);generalize fD (⟨tk,tt,ta⟩::r)=T at *;by_cases hk:tk=2
  ·subst hk
   obtain⟨hd1,hd2,hd3⟩:=ho.num rfl;have hs:=ho.size;simp only at hd1 hd2 hd3 hs;have hpi:=qM _ hd1 hd2;rw [if_pos hd3] at hpi;have lS:=Z_ hpi;have HT2:=Z_ (show T=.got (.mk 15 aS (valOf tt) []) r by have:=HT.out;simpa using this);clear h hd1 hd2 hd3 hpi HT ho oH;go_enter Tryz.func178,Tryz.ntmps178
   go_wp2_with fail
   refine HC.out.mono ?_
   rintro e w1 ⟨rfl,hE⟩;unfold Gh;have hA:=aH.made w1 #[.int .i64 2,.string tt,.int .i64 ta] 195;have hE2:=(HX0.out.ext hE).alloc (.cells #[.int .i64 2,.string tt,.int .i64 ta] 195);have hR2:=(HA.out.ext hE).alloc (.cells #[.int .i64 2,.string tt,.int .i64 ta] 195);obtain⟨k,hk,hk2,oN⟩:=uH (HP.out _ hE2);obtain⟨a',n',c',k',hB,-,-⟩:=wu (HP.out _ hE2);have hw1:=(HX0.out.ext hE).size;have QN:w1.heap.size≠S:=by omega
   have hf:=hB.frozen 1;have hSl:=hB.lt;have hA2:=hA.setOther (p:=⟨S,1,none⟩) QN (.int .i64 ((k:Int)+1));have FP:=hR2.setOther (p:=⟨S,1,none⟩) (by show w.heap.size≠S;omega) (.int .i64 ((k:Int)+1));have hc1:=hA2.cell 1;have hkw:IntKind.i64.wrap ((k:Int)+1)=(k:Int)+1:=by unfold IntKind.wrap;simp only [IntKind.bits,IntKind.signed];simp;omega
   have HP2:=Z_ oN;have wR:=Z_ (ak (mV hE2 S) 1 (.int .i64 ((k:Int)+1)));have HR3:=Z_ FP;clear oN hB hA2 hA hE hE2 hR2 FP;go_wp2_with fail
   generalize (w1.alloc (.cells #[.int .i64 2,.string tt,.int .i64 ta] 195)).setCell ⟨S,1,none⟩ (.int .i64 ((k:Int)+1))=w9 at *;refine(Tryz.strconv_ParseInt_10_at64_ok tt (by omega) _ lS.out _).mono ?_
   rintro e w2 ⟨rfl,hw2⟩
   have CJ:Ext w9 w2:=by
    rcases hw2 with rfl|⟨t,rfl⟩
    ·exact aB.refl _ _
    ·exact lex.xU _ _ _
   have zf:=Z_ CJ;clear hw2 CJ;have Qo:=HR3.out.ext zf.out;have QO:=HP2.out.extend zf.out;have Ky:=wR.out.ext zf.out;clear zf HR3 HP2 wR hk hf hc1 hSl;have NR:=Z_ Qo;have KJ:=Z_ QO;have Ri:=Z_ Ky;clear Qo QO Ky;have HV:=Z_ (show valOf tt=((decFrom 0 tt.data.toList:Nat):Int) from rfl);obtain⟨V,hV⟩:∃ V:Int,((decFrom 0 tt.data.toList:Nat):Int)=V:=⟨_,rfl⟩;rw [hV] at HV ⊢;clear hV;go_wp2_with fail
   refine(dG _ _ _ _ _ _ _).mono ?_
   rintro e w3 ⟨rfl,qU⟩;have Xb:=NR.out.ext qU;have Xk:=Z_ (KJ.out.extend qU);have X7:=Z_ (Ri.out.ext qU);have Iw:=Z_ Xb;have hc5:=Xb.cell;have hf5:=Xb.frozen;have hl5:=Xb.lt;clear qU Xb;go_wp2_with fail
   refine bD rfl rfl rfl ((((Iw.out.set 0 _).set 1 _).set 2 _).set 3 _) Tryz.underlying24 rfl (by kernel_rfl) ?_
   exact dZ.reads ((((X7.out.bI (p:=⟨w.heap.size,0,none⟩) (by simp) _).bI (p:=⟨w.heap.size,1,none⟩) (by simp) _).bI (p:=⟨w.heap.size,2,none⟩) (by simp) _).bI (p:=⟨w.heap.size,3,none⟩) (by simp) _)
    (x:=.mk 15 aS V []) (l:=r) (by rw [←HV.out];exact HT2.out) (jX _ _ _ _ (by decide)) ((((Xk.out.zl (p:=⟨w.heap.size,0,none⟩) (by simp;omega) (by simp;omega) _).zl (p:=⟨w.heap.size,1,none⟩) (by simp;omega) (by simp;omega) _).zl (p:=⟨w.heap.size,2,none⟩) (by simp;omega) (by simp;omega) _).zl (p:=⟨w.heap.size,3,none⟩) (by simp;omega) (by simp;omega) _)
  ·have hk2:(tk != 2)=true:=by simpa using hk
   have HT2:=Z_ (show T=.bad (⟨tk,tt,ta⟩::r) by have:=HT.out;rw [if_neg hk] at this;exact this);clear h HP HT ho oH;go_enter Tryz.func178,Tryz.ntmps178
   go_wp2_with fail
   refine HC.out.mono ?_
   rintro e w1 ⟨rfl,hE⟩;unfold Gh;have hE2:=(HX0.out.ext hE).alloc (.cells #[.int .i64 tk,.string tt,.int .i64 ta] 195);have nY:=Z_ hE2;have HF:=Z_ (xg.out _ hE2);clear hE hE2;go_wp2_with fail
   refine HF.out.mono ?_
   rintro e w2 ⟨rfl,qW⟩;go_wp2_with fail
   exact⟨rfl,dZ.fails (mV (nY.out.ext qW) S) HT2.out⟩
end bn
end Go.Proofs.YtpcihajmcejliacGreatDoor
namespace Go.Proofs.YtpcihajmcejliacGreatDoor
open Go.RowKit
namespace specs
def ja (o:Oper) (j:Nat):Bool:=o.after.any fun e=>Region.binds .any e&&e.on == j
def upTo (x:Nat→Value) (t:Nat) (v:Value):Nat→Value:=fun k=>if k=t then v else x k
def wU (l:Array Bool):Nat→Nat
 | 0=>0
 | n+1=>wU l n+if l.getD n false=true then 0 else 1
theorem oC {l:Array Bool} {i:Nat} (hi:i<l.size) (h:l.getD i false=false):∀ n,i<n→wU (l.setIfInBounds i true) n+1=wU l n:=by
 intro n;induction n with
 | zero=>intro h;omega
 | succ n ih=>
  intro hn
  have hlo:∀ m,m≤i→wU (l.setIfInBounds i true) m=wU l m:=by
   intro m;induction m with
   | zero=>intro _;rfl
   | succ m ihm=>
    intro hm;rw [wU,wU,ihm (by omega),getD_set_ne false (by omega)]
  rw [wU,wU];by_cases e:i=n
  ·subst e
   rw [hlo i (Nat.le_refl _),if_pos (by simp [hi]),h];simp
  ·rw [getD_set_ne false e]
   have:=ih (by omega);omega
theorem pG {l:Array Bool}:∀ n,wU l n=0→∀ i,i<n→l.getD i false=true:=by
 intro n;induction n with
 | zero=>intro _ i hi;omega
 | succ n ih=>
  intro h i hi;rw [wU] at h;by_cases e:i=n
  ·subst e
   by_cases hb:l.getD i false=true
   ·exact hb
   ·rw [if_neg hb] at h;omega
  ·exact ih (by omega) i (by omega)
theorem rU (n m:Nat) (h:n≤m):wU (Array.replicate m false) n=n:=by
 induction n with
 | zero=>rfl
 | succ n ih=>rw [wU,ih (by omega),getD_replicate_false,if_neg (by simp)]
end specs
inductive ai (Pr:Nat→Oper→Prop):Nat→List Oper→Prop where
 | nil {k:Nat}:ai Pr k []
 | cons {k:Nat} {o:Oper} {r:List Oper} (h:Pr k o) (t:ai Pr (k+1) r):ai Pr k (o::r)
theorem ai.get {Pr:Nat→Oper→Prop} {k:Nat} {l:List Oper} (h:ai Pr k l):∀ i o,l[i]? = some o→Pr (k+i) o:=by
 induction h with
 | nil=>intro i o h;simp at h
 | @cons k o' r h t ih=>
  intro i o ho;cases i with
  | zero=>simp at ho;subst ho;exact h
  | succ i=>
   have:=ih i o (by simpa using ho);rw [show k+(i+1)=k+1+i by omega];exact this
end Go.Proofs.YtpcihajmcejliacGreatDoor
namespace Go.Proofs.YtpcihajmcejliacGreatDoor
open Go.RowKit
namespace chain
open specs (ja upTo wU oC pG rU)
def aW (ops:Array Oper) (i:Nat):Option Nat:=match ops[i]? with|some o=>o.dst|none=>none
def BZ (ops:Array Oper) (i:Nat):Nat:=(aW ops i).getD 0
def at_ (c:List Nat) (i:Nat):Option Nat:=c.findIdx? (· == i)
def okB (ops:Array Oper) (c:List Nat):Bool:=
 ((List.range ops.size).all fun i=>(match ops[i]? with|some o=>o.guard.isNone&&o.after.all (fun e=>!Region.binds .any e || decide (e.on<i))|none=>false)&&(List.range i).all fun j=>(aW ops i).isNone || aW ops i != aW ops j) &&
 (List.range c.length).all fun m=>decide (c.getD m 0<ops.size)&&(m == 0 || (match ops[c.getD m 0]? with|some o=>ja o (c.getD (m-1) 0)|none=>false))&&at_ c (c.getD m 0) == some m
def bf (T:Array Value) (t:Option Nat) (x:Nat→Value):Array Value:=match t with|some t=>T.setIfInBounds t (x t)|none=>T
def fill (ops:Array Oper) (T:Array Value) (x:Nat→Value):Nat→Array Value
 | 0=>T
 | n+1=>bf (fill ops T x n) (aW ops n) x
theorem B_ (T:Array Value) (t:Option Nat) (x:Nat→Value):(bf T t x).size=T.size:=by
 cases t<;>simp [bf]
theorem yf (ops:Array Oper) (T:Array Value) (x:Nat→Value) (n:Nat):(fill ops T x n).size=T.size:=by
 induction n with
 | zero=>rfl
 | succ n ih=>rw [fill,B_,ih]
theorem zE (ops:Array Oper) (T:Array Value) (x:Nat→Value) (n k:Nat):(fill ops T x n)[k]? = if (∃ i,i<n∧aW ops i=some k)∧k<T.size then some (x k) else T[k]?:=by
 induction n with
 | zero=>rw [fill,if_neg (by rintro ⟨⟨i,hi,_⟩,_⟩;omega)]
 | succ n ih=>
  rw [fill];cases hd:aW ops n with
  | none=>
   rw [bf,ih];by_cases hc:(∃ i,i<n∧aW ops i=some k)∧k<T.size
   ·rw [if_pos hc]
    obtain⟨⟨i,hi,e'⟩,hk⟩:=hc;rw [if_pos ⟨⟨i,by omega,e'⟩,hk⟩]
   ·rw [if_neg hc,if_neg]
    rintro ⟨⟨i,hi,e'⟩,hk⟩;rcases Nat.lt_or_ge i n with h|h
    ·exact hc ⟨⟨i,h,e'⟩,hk⟩
    ·obtain rfl:i=n:=by omega
     rw [hd] at e';cases e'
  | some t=>
   rw [bf,Array.getElem?_setIfInBounds,ih,yf];by_cases e:t=k
   ·rw [if_pos e]
    by_cases hk:k<T.size
    ·rw [if_pos (by omega),if_pos ⟨⟨n,by omega,by rw [hd,e]⟩,hk⟩,e]
    ·rw [if_neg (by omega),if_neg (fun h=>hk h.2),Array.getElem?_eq_none (by omega)]
   ·rw [if_neg e]
    by_cases hc:(∃ i,i<n∧aW ops i=some k)∧k<T.size
    ·rw [if_pos hc]
     obtain⟨⟨i,hi,e'⟩,hk⟩:=hc;rw [if_pos ⟨⟨i,by omega,e'⟩,hk⟩]
    ·rw [if_neg hc,if_neg]
     rintro ⟨⟨i,hi,e'⟩,hk⟩;rcases Nat.lt_or_ge i n with h|h
     ·exact hc ⟨⟨i,h,e'⟩,hk⟩
     ·obtain rfl:i=n:=by omega
      rw [hd] at e';cases e';exact e rfl
theorem JU (ops:Array Oper) (T:Array Value) (x:Nat→Value) (n i t:Nat) (hi:i<n) (ht:aW ops i=some t) (v:Value):(fill ops T x n).setIfInBounds t v=fill ops T (upTo x t v) n:=by
 refine Array.ext_getElem? fun k=>?_
 rw [Array.getElem?_setIfInBounds,zE,zE,yf];by_cases e:t=k
 ·subst e
  rw [if_pos rfl];by_cases hk:t<T.size
  ·rw [if_pos hk,if_pos ⟨⟨i,hi,ht⟩,hk⟩]
   unfold upTo;rw [if_pos rfl]
  ·rw [if_neg hk,if_neg (fun h=>hk h.2),Array.getElem?_eq_none (by omega)]
 ·rw [if_neg e]
  have:upTo x t v k=x k:=by unfold upTo;rw [if_neg (fun h=>e h.symm)]
  rw [this]
theorem yh (ops:Array Oper) (T:Array Value) (n:Nat):fill ops T (fun k=>T.getD k undef) n=T:=by
 refine Array.ext_getElem? fun k=>?_
 rw [zE];split
 ·rename_i h
  rw [Array.getElem?_eq_getElem h.2];simp [h.2]
 ·rfl
def aK (ops:Array Oper) (a:Act) (x:Nat→Value):Act:={ a with tmps:=fill ops a.tmps x ops.size }
def slots (ops:Array Oper) (i:Nat) (x:Nat→Value) (v:Value):Nat→Value:=match aW ops i with|some t=>upTo x t v|none=>x
theorem EG {ops:Array Oper} {c:List Nat} (h:okB ops c=true) {i:Nat} {o:Oper} (ho:ops[i]? = some o):o.guard=none∧(∀ e∈o.after,Region.binds .any e=true→e.on<i)∧∀ j t,j<i→aW ops i=some t→aW ops j≠some t:=by
 have hi:=(Array.getElem?_eq_some_iff.1 ho).1;have h1:=List.all_eq_true.1 (Bool.and_eq_true_iff.1 h).1 i (List.mem_range.2 hi);rw [ho] at h1;simp only [Bool.and_eq_true,List.all_eq_true,List.mem_range,Bool.or_eq_true,bne_iff_ne,Array.all_eq_true_iff_forall_mem,decide_eq_true_eq,Option.isNone_iff_eq_none] at h1;refine⟨h1.1.1,fun e he hb=>by have:=h1.1.2 e he;rw [hb] at this;simpa using this,fun j t hj ht e=>?_⟩
 rcases h1.2 j hj with h2|h2
 ·rw [h2] at ht;cases ht
 ·exact h2 (ht.trans e.symm)
theorem rV {ops:Array Oper} {c:List Nat} (h:okB ops c=true) {m:Nat} (hm:m<c.length):c.getD m 0<ops.size∧(m=0∨∃ o,ops[c.getD m 0]? = some o∧ja o (c.getD (m-1) 0)=true)∧at_ c (c.getD m 0)=some m:=by
 have h1:=List.all_eq_true.1 (Bool.and_eq_true_iff.1 h).2 m (List.mem_range.2 hm);simp only [Bool.and_eq_true,Bool.or_eq_true,beq_iff_eq,decide_eq_true_eq] at h1;refine⟨h1.1.1,?_,h1.2⟩
 rcases h1.1.2 with h2|h2
 ·exact .inl h2
 ·cases ho:ops[c.getD m 0]? with
  | none=>rw [ho] at h2;cases h2
  | some o=>rw [ho] at h2;exact .inr ⟨o,rfl,h2⟩
theorem qh {c:List Nat} {i m:Nat} (h:at_ c i=some m):m<c.length∧c.getD m 0=i:=by
 unfold at_ at h;rw [List.findIdx?_eq_some_iff_getElem] at h;obtain⟨h1,h2,-⟩:=h;refine⟨h1,?_⟩
 simp only [beq_iff_eq] at h2;simp [h1,h2]
theorem QS {ops:Array Oper} {c:List Nat} (h:okB ops c=true) {i j t:Nat} (hi:i<ops.size) (hj:j<ops.size) (hne:i≠j) (ht:aW ops i=some t):aW ops j≠some t:=by
 rcases Nat.lt_or_gt_of_ne hne with h'|h'
 ·intro e
  exact(EG h (Array.getElem?_eq_getElem hj)).2.2 i t h' e ht
 ·exact(EG h (Array.getElem?_eq_getElem hi)).2.2 j t h' ht
theorem yj {ops:Array Oper} (a:Act) (x:Nat→Value) {i:Nat} {o:Oper} (ho:ops[i]? = some o) (v:Value):(aK ops a x).put o.dst v=aK ops a (slots ops i x v):=by
 have hd:aW ops i=o.dst:=by unfold aW;rw [ho]
 unfold aK Act.put slots;rw [hd];cases hod:o.dst with
 | none=>rfl
 | some t=>
  simp only
  rw [JU _ _ _ _ i t (Array.getElem?_eq_some_iff.1 ho).1 (by rw [hd,hod])]
theorem Gz {ops:Array Oper} {c:List Nat} {l:Array Bool} (hB:okB ops c=true) (hs:l.size=ops.size):∀ d i,i=d→i<ops.size→l.getD i false=false→∃ j,j∈Region.ready .any ops l:=by
 intro d;induction d using Nat.strongRecOn with
 | _ d ih=>
  intro i hd hi hun;have ho:=Array.getElem?_eq_getElem hi;by_cases hall:∀ e∈ops[i].after,Region.binds .any e=true→l.getD e.on false=true
  ·have hil:i<l.size:=by omega
   have QT:l.getD i true=false:=by simp [hil] at hun ⊢;exact hun
   exact⟨i,mem_ready.2 ⟨QT,ops[i],ho,hall⟩⟩
  ·simp only [Classical.not_forall] at hall
   obtain⟨e,he,hbd,hl⟩:=hall;have hlt:=(EG hB ho).2.1 e he hbd;exact ih e.on (by omega) e.on rfl (by omega) (by simpa using hl)
end chain
end Go.Proofs.YtpcihajmcejliacGreatDoor
namespace Go.Proofs.YtpcihajmcejliacGreatDoor
open Go.RowKit
namespace aj
open chain
open specs (ja upTo wU oC pG rU)
def known (ops:Array Oper) (c:List Nat) (Sp:Nat→Value→World→Prop) (x:Nat→Value) (vs:List Value) (w:World) (j:Nat):Prop:=
 match at_ c j with
 | some m=>∀ t,aW ops j=some t→x t=vs.getD m undef
 | none=>Sp j (x (BZ ops j)) w
structure Inv (ops:Array Oper) (c:List Nat) (Sp:Nat→Value→World→Prop) (F:List Value→World→Prop) (l:Array Bool) (x:Nat→Value) (w:World) (vs:List Value):Prop where
 size:l.size=ops.size
 holds:F vs w
 len:vs.length≤c.length
 closed:∀ j o,ops[j]? = some o→l.getD j false=true→∀ e∈o.after,Region.binds .any e=true→l.getD e.on false=true
 done:∀ m,m<c.length→(l.getD (c.getD m 0) false=true↔m<vs.length)
 yes:∀ i,i<ops.size→l.getD i false=true→known ops c Sp x vs w i
def EH (ops:Array Oper) (c:List Nat):Bool:=(List.range ops.size).all fun i=>(at_ c i).isSome || (aW ops i).isSome
def Step (P:Program) (ops:Array Oper) (n:Nat) (c:List Nat) (Sp:Nat→Value→World→Prop) (F:List Value→World→Prop) (G:World→World→Prop) (frame:(Nat→Value)→Act) (Q:Exit→Act→World→Prop) (i:Nat) (o:Oper):Prop:=
 ∀ x vs w,F vs w→(∀ m,at_ c i=some m→vs.length=m)→(∀ m o',m<c.length→ops[c.getD m 0]? = some o'→ja o' i=true→vs.length≤m)→(∀ j,j<n→ja o j=true→known ops c Sp x vs w j)→
  ∀ K:Act→World→Prop,Shut (∀ a' w' v,a'=(frame x).put o.dst v→G w w'→(match at_ c i with|some _=>F (vs ++ [v]) w'|none=>Sp i v w'∧F vs w')→K a' w')→Oper.wp P o (frame x) w K Q
theorem run {P:Program} {ops:Array Oper} {Q:Exit→Act→World→Prop} {a:Act} (c:List Nat) (Sp:Nat→Value→World→Prop) (F:List Value→World→Prop) (G:World→World→Prop) (hB:okB ops c=true) (hS:EH ops c=true)
  (DK:∀ i v w w',Sp i v w→G w w'→Sp i v w')
  (step:∀ i o,ops[i]? = some o→Step P ops ops.size c Sp F G (aK ops a) Q i o)
  (fin:∀ x vs w,vs.length=c.length→F vs w→(∀ i,i<ops.size→known ops c Sp x vs w i)→Q .normal (aK ops a x) w) :
  ∀ (fuel:Nat) (l:Array Bool) (x:Nat→Value) (w:World) (vs:List Value),wU l ops.size=fuel→Inv ops c Sp F l x w vs→wpAny P .any ops Q fuel l (aK ops a x) w:=by
 intro fuel;induction fuel with
 | zero=>
  intro l x w vs hu hI;have hall:=pG _ hu;refine⟨?_,fin x vs w ?_ hI.holds fun i hi=>hI.yes i hi (hall i hi)⟩
  ·rw [List.eq_nil_iff_forall_not_mem]
   intro j hj;obtain⟨h1,o,ho,-⟩:=mem_ready.1 hj;have hj':=(Array.getElem?_eq_some_iff.1 ho).1;have h2:=hall j hj';have hjl:j<l.size:=by rw [hI.size];exact hj'
   simp [hjl] at h1 h2
   rw [h1] at h2;cases h2
  ·rcases Nat.lt_or_ge vs.length c.length with h|h
   ·have:=(hI.done _ h).1 (hall _ (rV hB h).1)
    omega
   ·have:=hI.len;omega
 | succ fuel ih=>
  intro l x w vs hu hI;refine⟨fun h0=>?_,fun i hi=>?_⟩
  ·exfalso
   have:∃ i,i<ops.size∧l.getD i false=false:=by
    by_cases hc:∃ i,i<ops.size∧l.getD i false=false
    ·exact hc
    ·exfalso
     have hz:∀ n,n≤ops.size→wU l n=0:=by
      intro n;induction n with
      | zero=>intro _;rfl
      | succ n ihn=>
       intro hn;rw [wU,ihn (by omega),if_pos];cases hb:l.getD n false
       ·exact absurd ⟨n,by omega,hb⟩ hc
       ·rfl
     rw [hz _ (Nat.le_refl _)] at hu;omega
   obtain⟨i,hi,hb⟩:=this;obtain⟨j,hj⟩:=Gz hB hI.size i i rfl hi hb;rw [h0] at hj;cases hj
  ·obtain⟨h1,o,ho,hall⟩:=mem_ready.1 hi
   have Nl:=(Array.getElem?_eq_some_iff.1 ho).1;have hil:i<l.size:=by rw [hI.size];exact Nl
   have h1':l.getD i false=false:=by simp [hil] at h1 ⊢;exact h1
   have JV:∀ j,ja o j=true→l.getD j false=true:=fun j hw=>by
    obtain⟨e,he,hb⟩:=Array.any_eq_true'.1 hw;simp only [Bool.and_eq_true,beq_iff_eq] at hb;rw [←hb.2];exact hall e he hb.1
   have hlen:∀ m,at_ c i=some m→vs.length=m:=fun m hm=>by
    obtain⟨hmc,GF⟩:=qh hm
    have hno:¬ m<vs.length:=fun h=>by
     have:=(hI.done m hmc).2 h;rw [GF,h1'] at this;cases this
    rcases (rV hB hmc).2.1 with h|⟨o',ho',hw⟩
    ·omega
    ·rw [GF] at ho'
     obtain rfl:o'=o:=Option.some.inj (ho'.symm.trans ho);rcases Nat.eq_zero_or_pos m with h0|h0
     ·omega
     ·have:=(hI.done (m-1) (by omega)).1 (JV _ hw)
      omega
   have hbef:∀ m o',m<c.length→ops[c.getD m 0]? = some o'→ja o' i=true→vs.length≤m:=fun m o' hm ho' hw=>by
    rcases Nat.lt_or_ge m vs.length with h|h
    ·exfalso
     have hl:=(hI.done m hm).2 h;obtain⟨e,he,hb⟩:=Array.any_eq_true'.1 hw;simp only [Bool.and_eq_true,beq_iff_eq] at hb;have:=hI.closed _ o' ho' hl e he hb.1;rw [hb.2,h1'] at this;cases this
    ·exact h
   refine wpOp_step ho fun K hK=>?_
   have hwd:Region.wanted o (yielded ops (aK ops a x).tmps)=true:=by simp [Region.wanted,(EG hB ho).1]
   rw [if_pos hwd];refine step i o ho x vs w hI.holds hlen hbef (fun j hj hw=>hI.yes j hj (JV j hw)) K (fun a' w' v ha' hG hv=>hK a' w' ?_)
   subst ha';rw [yj a x ho]
   have hne:∀ j t u,j<ops.size→j≠i→aW ops j=some t→slots ops i x u t=x t:=fun j t u hj hne ht=>by
    unfold slots;cases hd:aW ops i with
    | none=>rfl
    | some t'=>
     simp only [upTo];rw [if_neg];rintro rfl;exact QS hB Nl hj (Ne.symm hne) hd ht
   have heq:∀ t u,aW ops i=some t→slots ops i x u t=u:=fun t u ht=>by
    unfold slots;rw [ht];simp [upTo]
   have hdst:∀ j,j<ops.size→at_ c j=none→aW ops j=some (BZ ops j):=fun j hj hc=>by
    have:=List.all_eq_true.1 hS j (List.mem_range.2 hj);rw [hc] at this;simp only [Option.isSome_none,Bool.false_or] at this;obtain⟨t,ht⟩:=Option.isSome_iff_exists.1 this;unfold BZ;rw [ht];rfl
   have hold:∀ j,j<ops.size→l.getD j false=true→j≠i→∀ vs',(∀ m,m<vs.length→vs'.getD m undef=vs.getD m undef)→known ops c Sp (slots ops i x v) vs' w' j:=fun j hj hl hji vs' hvs=>by
    have hk:=hI.yes j hj hl;unfold known at hk ⊢;cases hcj:at_ c j with
    | none=>
     rw [hcj] at hk;simp only at hk ⊢;rw [hne j _ v hj hji (hdst j hj hcj)];exact DK _ _ _ _ hk hG
    | some m=>
     rw [hcj] at hk;simp only at hk ⊢;intro t ht;rw [hne j t v hj hji ht,hk t ht];obtain⟨hmc,hmj⟩:=qh hcj;exact(hvs m ((hI.done m hmc).1 (by rw [hmj];exact hl))).symm
   cases hc:at_ c i with
   | none=>
    rw [hc] at hv;obtain⟨hsp,hF⟩:=hv;refine ih _ _ _ vs (by have:=oC hil h1' ops.size Nl;omega) ⟨by simp [hI.size],hF,hI.len,fun j oj hoj hl e he hb=>?_,fun m hm=>?_,fun j hj hl=>?_⟩
    ·by_cases e':i=j
     ·subst e'
      obtain rfl:oj=o:=Option.some.inj (hoj.symm.trans ho);exact getD_set_true (hall e he hb)
     ·rw [getD_set_ne false e'] at hl
      exact getD_set_true (hI.closed j oj hoj hl e he hb)
    ·have GF:c.getD m 0≠i:=fun e=>by
      have:=(rV hB hm).2.2;rw [e,hc] at this;cases this
     rw [getD_set_ne false (Ne.symm GF)];exact hI.done m hm
    ·by_cases e':j=i
     ·subst e'
      unfold known;rw [hc];simp only
      rw [heq _ _ (hdst _ hj hc)];exact hsp
     ·rw [getD_set_ne false (Ne.symm e')] at hl
      exact hold j hj hl e' vs fun _ _=>rfl
   | some m=>
    rw [hc] at hv;have hvl:=hlen m hc;obtain⟨hmc,GF⟩:=qh hc;refine ih _ _ _ (vs ++ [v]) (by have:=oC hil h1' ops.size Nl;omega) ⟨by simp [hI.size],hv,by simp;omega,fun j oj hoj hl e he hb=>?_,fun m' hm'=>?_,fun j hj hl=>?_⟩
    ·by_cases e':i=j
     ·subst e'
      obtain rfl:oj=o:=Option.some.inj (hoj.symm.trans ho);exact getD_set_true (hall e he hb)
     ·rw [getD_set_ne false e'] at hl
      exact getD_set_true (hI.closed j oj hoj hl e he hb)
    ·rw [List.length_append,List.length_singleton,hvl]
     by_cases e':m'=m
     ·subst e'
      rw [GF];simp [hil]
     ·have QU:c.getD m' 0≠i:=fun e=>by
       have:=(rV hB hm').2.2;rw [e,hc] at this;cases this;exact e' rfl
      rw [getD_set_ne false (Ne.symm QU),hI.done m' hm',hvl];omega
    ·by_cases e':j=i
     ·subst e'
      unfold known;rw [hc];simp only
      intro t ht;rw [heq t _ ht];simp [←hvl]
     ·rw [getD_set_ne false (Ne.symm e')] at hl
      exact hold j hj hl e' _ fun m' hm'=>by simp [List.getElem?_append_left hm']
end aj
open specs aj in
theorem ah {P:Program} {id:Nat} {l:List Oper} {Q:Exit→Act→World→Prop} {a:Act} {w:World} (c:List Nat) (Sp:Nat→Value→World→Prop) (F:List Value→World→Prop) (G:World→World→Prop) {frame:(Nat→Value)→Act} (hf:∀ x,chain.aK l.toArray a x=frame x) (hm:P.follows .mixedOrders=true) (hB:chain.okB l.toArray c=true) (hS:EH l.toArray c=true)
  (DK:∀ i v w w',Sp i v w→G w w'→Sp i v w')
  (h0:F [] w.drew)
  (step:ai (fun i o=>aj.Step P l.toArray l.length c Sp F G frame Q i o) 0 l)
  (fin:∀ x vs w1,vs.length=c.length→F vs w1→(∀ i,i<l.length→aj.known l.toArray c Sp x vs w1 i)→Q .normal (frame x) w1):(Code.region id l.toArray true).wp P Q a w:=by
 have ha:chain.aK l.toArray a (fun k=>a.tmps.getD k undef)=a:=by unfold chain.aK;rw [chain.yh]
 have hfe:chain.aK l.toArray a=frame:=funext hf;refine wp_region_any hm ?_
 have h:=aj.run (P:=P) (ops:=l.toArray) (Q:=Q) (a:=a) c Sp F G hB hS DK (fun i o ho=>by
   have h:=step.get i o (by simpa using ho);rw [Nat.zero_add] at h;rw [hfe];simpa using h) (fun x vs w1 hl hF hs=>by rw [hf];exact fin x vs w1 hl hF fun i hi=>hs i (by simpa using hi)) l.toArray.size (Array.replicate l.toArray.size false) (fun k=>a.tmps.getD k undef) w.drew [] (rU _ _ (Nat.le_refl _))
  ⟨by simp,h0,by simp,fun j o ho hl=>(by rw [getD_replicate_false] at hl;cases hl),fun m hm=>(by rw [getD_replicate_false];simp),fun i hi hl=>(by rw [getD_replicate_false] at hl;cases hl)⟩
 rw [ha] at h;exact h
end Go.Proofs.YtpcihajmcejliacGreatDoor
namespace Go.Proofs.YtpcihajmcejliacGreatDoor
open Go.RowKit
namespace bn
theorem mixed:Tryz.prog.follows .mixedOrders=true:=by kernel_rfl
theorem eP:(Tryz.prog.info? 24).map (fun i=>(i.zero,i.size,i.bytes))=some (some (.agg #[.int .i64 0,.string ⟨#[]⟩,.int .i64 0,.slice none 0 0]),4,56):=by kernel_rfl
theorem aX {o:Option TypeInfo} {z:Option Value} {s b:Nat} (h:o.map (fun i=>(i.zero,i.size,i.bytes))=some (z,s,b)):∃ i,o=some i∧i.zero=z∧i.size=s∧i.bytes=b:=by
 cases o with
 | none=>cases h
 | some i=>
  simp only [Option.map_some,Option.some.injEq,Prod.mk.injEq] at h;exact⟨i,rfl,h.1,h.2.1,h.2.2⟩
def bQ:Array Value:=#[.int .i64 0,.string ⟨#[]⟩,.int .i64 0,.slice none 0 0]
def VN (H:Nat) (x:Nd) (v:Value) (w':World):Prop:=fE (hide (below H) w') x v
structure iT (W w0 u:World) (S E A N:Nat) (l:List Tk) (kind:Int) (text:ByteArray) (num:Int) (jI row:Value) (acc:List Nd):Prop where
 pr:bu W u S E l
 aO:aB (fun i=>i=S) w0 u
 res:aH u A bQ 24
 nd:aH u N #[.int .i64 kind,.string text,.int .i64 num,jI] 24
 grow:Grow 4 24 LX (N+1) u row acc
 hS:S<w0.heap.size
 hA:w0.heap.size≤A
 CN:A<N
 few:acc.length+l.length≤10000
theorem iT.call {W w0 u u':World} {S E A N:Nat} {l l':List Tk} {kind num:Int} {text:ByteArray} {jI row:Value} {acc:List Nd} (h:iT W w0 u S E A N l kind text num jI row acc) (hC:aB (fun i=>i=S) u u') (hP:bu W u' S E l') (hl:l'.length≤l.length) :
  iT W w0 u' S E A N l' kind text num jI row acc:=by
 have h1:=h.hS;have h2:=h.hA;have h3:=h.CN;have h4:=h.few
 exact⟨hP,h.aO.then hC,h.res.aO hC (by omega),h.nd.aO hC (by omega),h.grow.aO fZ hC (fun i hi=>by omega),h1,h2,h3,by omega⟩
theorem iT.extend {W w0 u u':World} {S E A N:Nat} {l:List Tk} {kind num:Int} {text:ByteArray} {jI row:Value} {acc:List Nd} (h:iT W w0 u S E A N l kind text num jI row acc) (hE:Ext u u'):iT W w0 u' S E A N l kind text num jI row acc:=
 h.call (mV hE S) (h.pr.extend hE) (Nat.le_refl _)
theorem iT.lt {W w0 u:World} {S E A N:Nat} {l:List Tk} {kind num:Int} {text:ByteArray} {jI row:Value} {acc:List Nd} (h:iT W w0 u S E A N l kind text num jI row acc):N<u.heap.size:=h.nd.lt
theorem iT.slice {W w0 u:World} {S E A N:Nat} {l:List Tk} {kind num:Int} {text:ByteArray} {jI row:Value} {acc:List Nd} (h:iT W w0 u S E A N l kind text num jI row acc):∃ a c,row=.slice a acc.length c:=by
 obtain⟨us,_,ho,_⟩:=h.grow.ex;rcases ho.2 with ⟨rfl,h0⟩|⟨g,cap,cur,rfl,_⟩
 ·exact⟨_,_,by rw [h0]⟩
 ·exact⟨_,_,rfl⟩
theorem iT.start {W w0 u:World} {S E A N:Nat} {l:List Tk} {kind num:Int} {text:ByteArray} (hP:bu W u S E l) (hC:aB (fun i=>i=S) w0 u) (hR:aH u A bQ 24) (hN:aH u N #[.int .i64 kind,.string text,.int .i64 num,.slice none 0 0] 24)
  (hS:S<w0.heap.size) (hA:w0.heap.size≤A) (CN:A<N) (hl:l.length≤10000):iT W w0 u S E A N l kind text num (.slice none 0 0) (.slice none 0 0) []:=
 ⟨hP,hC,hR,hN,Grow.nil _ _ _ _ _,hS,hA,CN,by simpa using hl⟩
theorem DI {W w:World} {S E:Nat} {l:List Tk} (h:bu W w S E l):l.length≤10000:=by
 obtain⟨a,n,c,k,hb,h1,h2,h3⟩:=h.ex;omega
def fK (W w0:World) (S E A N:Nat) (l:List Tk) (kind:Int) (text:ByteArray) (num:Int) (row:Value) (acc:List Nd) (T:Out Nd):List Value→World→Prop
 | [],u=>iT W w0 u S E A N l kind text num row row acc
 | [v],u=>∃ x l',Hid (T=.got x l')∧iT W w0 u S E A N l' kind text num row row acc∧acc.length+1+l'.length≤10000∧fE (hide (bM (N+1) row) u) x v
 | [v,s],u=>∃ x l',Hid (T=.got x l')∧iT W w0 u S E A N l' kind text num row row acc∧acc.length+1+l'.length≤10000∧fE (hide (bM (N+1) row) u) x v∧∃ g,s=.slice (some ⟨g,0,none⟩) 1 1∧aH u g v.cells 24∧row.ownBlock≠some g
 | [_,_,r],u=>∃ x l',Hid (T=.got x l')∧iT W w0 u S E A N l' kind text num row r (acc ++ [x])∧∃ g c,r=.slice (some ⟨g,0,none⟩) (acc.length+1) c
 | [_,_,r,_],u=>∃ x l',Hid (T=.got x l')∧iT W w0 u S E A N l' kind text num r r (acc ++ [x])
 | _,_=>False
theorem fK.cell {W w0 u:World} {S E A N:Nat} {l:List Tk} {kind num:Int} {text:ByteArray} {row:Value} {acc:List Nd} {T:Out Nd} {vs:List Value} (h:fK W w0 S E A N l kind text num row acc T vs u) (hv:vs.length≤2):u.cell? ⟨N,3,none⟩=some row:=by
 match vs,hv,h with
 | [],_,h=>exact(show iT .. from h).nd.cell 3
 | [_],_,⟨x,l',_,h,_⟩=>exact h.nd.cell 3
 | [_,_],_,⟨x,l',_,h,_⟩=>exact h.nd.cell 3
theorem f_ {W w0 u u2:World} {S E A N:Nat} {l l':List Tk} {kind num:Int} {text:ByteArray} {row:Value} {acc:List Nd} {T:Out Nd} {x:Nd} {v:Value} (h:iT W w0 u S E A N l kind text num row row acc) (hC:aB (fun i=>i=S) u u2) (hT:T=.got x l') (hV:VN u.heap.size x v u2) (hP:bu W u2 S E l') (hl:l'.length<l.length) :
  fK W w0 S E A N l kind text num row acc T [v] u2:=by
 have h4:=h.few;refine⟨x,l',Z_ hT,h.call hC hP (by omega),by omega,aJ (aZ (Nat.le_refl _) fun i hi hm=>?_) _ _ hV⟩
 simp only [below,bM,decide_eq_false_iff_not,Bool.or_eq_false_iff] at hm ⊢;have h1:=h.lt;refine⟨⟨by omega,fun e=>?_⟩,trivial⟩
 obtain⟨us,_,ho,_⟩:=h.grow.ex;have:=(World.ownsRow.lt ho i e).2;omega
theorem dO {W w0 u:World} {S E A N:Nat} {l:List Tk} {kind num:Int} {text:ByteArray} {row:Value} {acc:List Nd} {T:Out Nd} {v:Value} (h:fK W w0 S E A N l kind text num row acc T [v] u) {c:Array Value} (hc:v.cells=c) :
  fK W w0 S E A N l kind text num row acc T [v,.slice (some ⟨u.heap.size,0,none⟩) 1 1] (u.alloc (.cells c 24)):=by
 obtain⟨x,l',hT,hB,hl,hx⟩:=h;have hE:=(aB.refl (fun _=>False) u).alloc (.cells c 24);refine⟨x,l',hT,hB.extend hE,hl,aJ (aC hE fun _ _ h=>h.elim) _ _ hx,_,rfl,by rw [hc];exact aH.made _ _ _,fun e=>?_⟩
 obtain⟨us,_,ho,_⟩:=hB.grow.ex;have:=(World.ownsRow.lt ho _ e).2;omega
theorem push_append {W w0 u u':World} {S E A N:Nat} {l:List Tk} {kind num:Int} {text:ByteArray} {row v s:Value} {acc:List Nd} {T:Out Nd} {us:List Value} (h:fK W w0 S E A N l kind text num row acc T [v,s] u) (hus:us.length=acc.length)
  (hu3:∀ j (h:j<acc.length) (h':j<us.length),LX acc[j] us[j] (hide (bM (N+1) row) u)∧us[j].cells.size=4) {g c:Nat}
  (ho:u'.ownsRow (N+1) 24 4 (.slice (some ⟨g,0,none⟩) (acc.length+1) c) (acc.length+1) (us.flatMap (fun u=>u.cells.toList)++v.cells.toList))
  (hg:u.grownBy u' row.ownBlock) (ha:row.ownBlock=some g∨g=u.heap.size) :
  fK W w0 S E A N l kind text num row acc T [v,s,.slice (some ⟨g,0,none⟩) (acc.length+1) c] u':=by
 obtain⟨x,l',hT,hB,hl,hx,-⟩:=h;have h1:=hB.hS;have h2:=hB.hA;have h3:=hB.CN;have h4:=hB.few
 have hrow:∀ i,row.ownBlock=some i→N+1≤i:=fun i e=>by
  obtain⟨us,_,ho,_⟩:=hB.grow.ex;exact(World.ownsRow.lt ho i e).1
 have hC:aB (fun i=>row.ownBlock=some i) u u':=⟨hg.os,hg.tape,hg.output,hg.size,fun i hi hn=>hg.block i hi (by first|exact hn|exact fun e=>hn e.symm)⟩;have hn:N<u.heap.size:=hB.lt;refine⟨x,l',hT,⟨hB.pr.aO hC (fun e=>by have:=hrow _ e;omega) (fun i e=>by have:=hrow _ e;have:=hB.pr.hS;omega),hB.aO.trans hC (fun i hi e=>by have:=hrow _ e;omega),hB.res.aO hC (fun e=>by have:=hrow _ e;omega),hB.nd.aO hC (fun e=>by have:=hrow _ e;omega),?_,h1,h2,h3,by rw [List.length_append,List.length_singleton];omega⟩,g,c,rfl⟩
 exact Grow.push fZ hus hu3 hx (fA hx) ho hg.size (fun i hi hne=>hC.block i hi hne) (fun i e=>by
  have:g=i:=by simpa [Value.ownBlock] using e
  subst this;rcases ha with ha|ha
  ·exact .inl ha
  ·exact .inr (by omega))
theorem dP {W w0 u:World} {S E A N:Nat} {l:List Tk} {kind num:Int} {text:ByteArray} {row v s r z:Value} {acc:List Nd} {T:Out Nd} (h:fK W w0 S E A N l kind text num row acc T [v,s,r] u):fK W w0 S E A N l kind text num row acc T [v,s,r,z] (u.setCell ⟨N,3,none⟩ r):=by
 obtain⟨x,l',hT,hB,-⟩:=h;have h1:=hB.hS;have h2:=hB.hA;have h3:=hB.CN
 have hWS:=hB.pr.hS;have hC:aB (fun i=>i=N) u (u.setCell ⟨N,3,none⟩ r):=ak (aB.refl _ _) 3 r;refine⟨x,l',hT,hB.pr.aO hC (by omega) (fun i e=>by omega),hB.aO.bI (p:=⟨N,3,none⟩) (by show w0.heap.size≤N;omega) _,hB.res.setOther (p:=⟨N,3,none⟩) (by show A≠N;omega) _,?_,hB.grow.aO fZ hC (fun i e=>by omega),h1,h2,h3,hB.few⟩
 have:=hB.nd.set 3 r;exact this
theorem iT.ret {W w0 u:World} {S E A N:Nat} {l:List Tk} {kind num:Int} {text:ByteArray} {row:Value} {acc:List Nd} {T:Out Nd} (h:iT W w0 u S E A N l kind text num row row acc) (ht:text.size≤10000) (hT:T=.got (.mk kind text num acc) l) (a b c d:Value) :
  dZ (VN w0.heap.size) W w0 S E T (.returned (.agg #[.int .i64 kind,.string text,.int .i64 num,row])) ((((u.setCell ⟨A,0,none⟩ a).setCell ⟨A,1,none⟩ b).setCell ⟨A,2,none⟩ c).setCell ⟨A,3,none⟩ d):=by
 have h1:=h.hS;have h2:=h.hA;have h3:=h.CN
 have hWS:=h.pr.hS;have hC:aB (fun i=>i=A) u ((((u.setCell ⟨A,0,none⟩ a).setCell ⟨A,1,none⟩ b).setCell ⟨A,2,none⟩ c).setCell ⟨A,3,none⟩ d):=ak (ak (ak (ak (aB.refl _ _) 0 a) 1 b) 2 c) 3 d;refine dZ.reads (h.aO.trans hC fun i hi e=>by omega) hT ?_ (h.pr.aO hC (by omega) (fun i e=>by omega))
 exact Bg (o_ (F_ h.grow ht) hC (fun i e=>by omega)) (by omega)
def QV (S:Nat):NT→Option (FuncId×Array Value)
 | .expr=>some (331,#[.pointer (some ⟨S,0,none⟩)])
 | .bound k=>some (364,#[.pointer (some ⟨S,0,none⟩),.int .i64 (k:Nat)])
 | .unary=>some (375,#[.pointer (some ⟨S,0,none⟩)])
 | .asked=>some (334,#[.pointer (some ⟨S,0,none⟩)])
 | .place s=>some (335,#[.pointer (some ⟨S,0,none⟩),.string s])
 | .call s=>some (332,#[.pointer (some ⟨S,0,none⟩),.string s])
 | .block=>some (229,#[.pointer (some ⟨S,0,none⟩)])
 | .stat=>some (276,#[.pointer (some ⟨S,0,none⟩)])
 | .decl=>some (98,#[.pointer (some ⟨S,0,none⟩)])
 | .proc dX=>some (176,#[.pointer (some ⟨S,0,none⟩),.int .i64 dX])
 | .module=>some (48,#[.pointer (some ⟨S,0,none⟩)])
 | _=>none
def Xc:NT→Prop
 | .bound k=>k≤3
 | .place s=>s.size≤7000
 | .call s=>s.size≤7000
 | .proc dX=>0≤dX∧dX≤2
 | _=>True
def Good (n:Nat):Prop:=∀ {W w:World} {S E:Nat} {l:List Tk} (X:NT) (f:FuncId) (a:Array Value),bu W w S E l→dw W→QV S X=some (f,a)→Xc X→bJ n X l≠.out→Calls Tryz.prog f a w (dZ (VN w.heap.size) W w S E (bJ n X l))
end bn
end Go.Proofs.YtpcihajmcejliacGreatDoor
namespace Go.Proofs.YtpcihajmcejliacGreatDoor
open Go.RowKit
namespace bn
structure At (W w0 u:World) (S E A:Nat) (l:List Tk):Prop where
 pr:bu W u S E l
 aO:aB (fun i=>i=S) w0 u
 res:aH u A bQ 24
 hS:S<w0.heap.size
 hA:w0.heap.size≤A
theorem At.start {W w:World} {S E:Nat} {l:List Tk} (h:bu W w S E l):At W w (w.alloc (.cells bQ 24)) S E w.heap.size l:=
 ⟨h.alloc _,(aB.refl _ _).alloc _,aH.made _ _ _,h.lt,Nat.le_refl _⟩
theorem At.call {W w0 u u':World} {S E A:Nat} {l l':List Tk} (h:At W w0 u S E A l) (hC:aB (fun i=>i=S) u u') (hP:bu W u' S E l'):At W w0 u' S E A l':=by
 have h1:=h.hS;have h2:=h.hA
 exact⟨hP,h.aO.then hC,h.res.aO hC (by omega),h1,h2⟩
theorem At.extend {W w0 u u':World} {S E A:Nat} {l:List Tk} (h:At W w0 u S E A l) (hE:Ext u u'):At W w0 u' S E A l:=h.call (mV hE S) (h.pr.extend hE)
theorem At.alloc {W w0 u:World} {S E A:Nat} {l:List Tk} (h:At W w0 u S E A l) (o:Obj):At W w0 (u.alloc o) S E A l:=h.extend ((aB.refl _ _).alloc o)
theorem At.far {W w0 u u':World} {S E A N:Nat} {l:List Tk} (h:At W w0 u S E A l) (hC:aB (fun i=>i=N) u u') (hN:A<N):At W w0 u' S E A l:=by
 have h1:=h.hS;have h2:=h.hA;have h3:=h.pr.hS
 exact⟨h.pr.aO hC (by omega) (fun i e=>by omega),h.aO.trans hC (fun i hi e=>by omega),h.res.aO hC (by omega),h1,h2⟩
theorem At.lt {W w0 u:World} {S E A:Nat} {l:List Tk} (h:At W w0 u S E A l):A<u.heap.size:=h.res.lt
theorem At.Sz {W w0 u:World} {S E A:Nat} {l:List Tk} (h:At W w0 u S E A l) {N:Nat} {kind num:Int} {text:ByteArray} (hN:aH u N #[.int .i64 kind,.string text,.int .i64 num,.slice none 0 0] 24) (CN:A<N) :
  iT W w0 u S E A N l kind text num (.slice none 0 0) (.slice none 0 0) []:=iT.start h.pr h.aO h.res hN h.hS h.hA CN (DI h.pr)
theorem iT.slice3 {W w0 u:World} {S E A N:Nat} {l:List Tk} {kind num:Int} {text:ByteArray} {jI row:Value} {acc:List Nd} (h:iT W w0 u S E A N l kind text num jI row acc):∃ a n c,row=.slice a n c:=by
 obtain⟨a,c,h⟩:=h.slice;exact⟨a,_,c,h⟩
theorem iT.at {W w0 u:World} {S E A N:Nat} {l:List Tk} {kind num:Int} {text:ByteArray} {jI row:Value} {acc:List Nd} (h:iT W w0 u S E A N l kind text num jI row acc):At W w0 u S E A l:=⟨h.pr,h.aO,h.res,h.hS,h.hA⟩
theorem bU {w:World} {x:Nd} {v:Value} (h:fE w x v):∃ k t m a n c,v=.agg #[.int .i64 k,.string t,.int .i64 m,.slice a n c]:=by
 cases x with
 | mk k t m l=>
  rw [cG] at h;obtain⟨a,c,rfl,-⟩:=h;exact⟨_,_,_,_,_,_,rfl⟩
theorem eH {W w0 u:World} {S E A:Nat} {l:List Tk} {T:Out Nd} {x:Nd} {a b c d:Value} (h:At W w0 u S E A l) (M:Nat→Bool) (hx:fE (hide M u) x (.agg #[a,b,c,d])) (hMA:M A=true) (PU:∀ i,i<w0.heap.size→M i=true) (hT:T=.got x l) :
  dZ (VN w0.heap.size) W w0 S E T (.returned (.agg #[a,b,c,d])) ((((u.setCell ⟨A,0,none⟩ a).setCell ⟨A,1,none⟩ b).setCell ⟨A,2,none⟩ c).setCell ⟨A,3,none⟩ d):=by
 have h1:=h.hS;have h2:=h.hA;have hWS:=h.pr.hS
 have hC:aB (fun i=>i=A) u ((((u.setCell ⟨A,0,none⟩ a).setCell ⟨A,1,none⟩ b).setCell ⟨A,2,none⟩ c).setCell ⟨A,3,none⟩ d):=ak (ak (ak (ak (aB.refl _ _) 0 a) 1 b) 2 c) 3 d;refine dZ.reads (h.aO.trans hC fun i hi e=>by omega) hT ?_ (h.pr.aO hC (by omega) (fun i e=>by omega))
 refine aJ (aZ (Nat.le_refl _) fun i hi hm=>⟨?_,rfl⟩) _ _ (aJ (aC hC fun i _ e=>by rw [e];exact hMA) _ _ hx)
 simp only [below,decide_eq_false_iff_not];intro hlt;rw [PU i hlt] at hm;cases hm
def qp (B N:Nat):Nat→Bool:=fun i=>decide (i<B) || decide (i=N)
theorem cE {i B:Nat} (h:i<B):below B i=true:=by simpa [below] using h
theorem iR {i B N:Nat} (h:i<B):qp B N i=true:=by simp [qp,h]
structure Loc (S B N:Nat) (u:World) (x:Nd) (v:Value):Prop where
 nd:aH u N v.cells 24
 dat:fE (hide (qp B N) u) x v
 GZ:S<B
 hSN:S≠N
theorem Loc.call {S B N:Nat} {u u':World} {x:Nd} {v:Value} (h:Loc S B N u x v) (hC:aB (fun i=>i=S) u u'):Loc S B N u' x v:=
 ⟨h.nd.aO hC fun e=>h.hSN e.symm,aJ (aC hC fun i _ e=>by rw [e];exact iR h.GZ) _ _ h.dat,h.GZ,h.hSN⟩
theorem Loc.extend {S B N:Nat} {u u':World} {x:Nd} {v:Value} (h:Loc S B N u x v) (hE:Ext u u'):Loc S B N u' x v:=h.call (mV hE S)
theorem Loc.start {S B:Nat} {u:World} {x:Nd} {v:Value} (h:VN B x v u) (GZ:S<B) (hB:B≤u.heap.size) {c:Array Value} (hc:v.cells=c):Loc S B u.heap.size (u.alloc (.cells c 24)) x v:=by
 subst hc;refine⟨aH.made _ _ _,aJ (aZ (by simp) fun i hi hm=>?_) _ _ h,GZ,by omega⟩
 simp only [below,qp,decide_eq_false_iff_not,Bool.or_eq_false_iff] at hm ⊢;exact⟨⟨hm,by omega⟩,Below.heap_alloc _ _ _ hi⟩
theorem zC {u:World} {M:Nat→Bool} {x:Nd} {v:Value} (hx:fE (hide M u) x v) (hM:M u.heap.size=false) (k m:Int) (t:ByteArray) (ht:t.size≤10000) {c:Array Value} (hc:v.cells=c) :
  fE (hide M (u.alloc (.cells c 24))) (.mk k t m [x]) (.agg #[.int .i64 k,.string t,.int .i64 m,.slice (some ⟨u.heap.size,0,none⟩) 1 1]):=by
 subst hc;have hE:=(aB.refl (fun _=>False) u).alloc (.cells v.cells 24);rw [cG];refine⟨_,1,rfl,by simp,by decide,ht,fun j hj=>⟨_,_,rfl,by rw [bK];simp,v,?_,fA hx,fun i hi=>?_⟩⟩
 ·obtain rfl:j=0:=by simpa using hj
  exact aJ (aC hE fun _ _ h=>h.elim) _ _ hx
 ·obtain rfl:j=0:=by simpa using hj
  rw [fU _ _ _ hM,Nat.zero_mul,Nat.zero_add];exact(aH.made u v.cells 24).cell i
theorem Nk {u:World} {M:Nat→Bool} {x y:Nd} {v z:Value} (hx:fE (hide M u) x v) (hy:fE (hide M u) y z) (hM:M u.heap.size=false) (k m:Int) (t:ByteArray) (ht:t.size≤10000) {c:Array Value} (hc:v.cells++z.cells=c) :
  fE (hide M (u.alloc (.cells c 24))) (.mk k t m [x,y]) (.agg #[.int .i64 k,.string t,.int .i64 m,.slice (some ⟨u.heap.size,0,none⟩) 2 2]):=by
 subst hc;have hE:=(aB.refl (fun _=>False) u).alloc (.cells (v.cells++z.cells) 24);have h1:=fA hx;have h2:=fA hy;rw [cG];refine⟨_,2,rfl,by simp,by decide,ht,fun j hj=>⟨_,_,rfl,by rw [bK];simp,?_⟩⟩
 have hj2:j<2:=by simpa using hj
 by_cases e:j=0
 ·subst e
  refine⟨v,aJ (aC hE fun _ _ h=>h.elim) _ _ hx,h1,fun i hi=>?_⟩
  rw [fU _ _ _ hM,Nat.zero_mul,Nat.zero_add,(aH.made u _ 24).cell i,Array.getElem?_append_left (by omega)]
 ·obtain rfl:j=1:=by omega
  refine⟨z,aJ (aC hE fun _ _ h=>h.elim) _ _ hy,h2,fun i hi=>?_⟩
  rw [fU _ _ _ hM,Nat.zero_add,Nat.one_mul,(aH.made u _ 24).cell (4+i),Array.getElem?_append_right (by omega),h1];congr 1;omega
theorem lI {u:World} {B N:Nat} {x:Nd} {v:Value} (hx:VN B x v u) (hN:N+1≤B) (hB:B≤u.heap.size) {c:Array Value} (hc:v.cells=c):Grow 4 24 LX (N+1) (u.alloc (.cells c 24)) (.slice (some ⟨u.heap.size,0,none⟩) 1 1) [x]:=by
 subst hc;have hs:=fA hx;refine⟨[v],rfl,⟨by simp [hs],.inr ⟨u.heap.size,1,v.cells,rfl,by omega,heap_alloc_new u _,Nat.le_refl _,by decide,by rw [hs],by simp only [List.length_singleton,Nat.one_mul,List.flatMap_cons,List.flatMap_nil,List.append_nil];exact List.take_of_length_le (by rw [Array.length_toList,hs];exact Nat.le_refl _)⟩⟩,fun j hj hj'=>?_⟩
 obtain rfl:j=0:=by simpa using hj
 refine⟨aJ (aZ (by simp) fun i hi hm=>?_) _ _ hx,hs⟩
 simp only [below,bM,decide_eq_false_iff_not,Bool.or_eq_false_iff] at hm ⊢;refine⟨⟨by omega,fun e=>?_⟩,Below.heap_alloc _ _ _ hi⟩
 simp only [Value.ownBlock,Option.some.injEq] at e;omega
theorem iT.put {W w0 u:World} {S E A N:Nat} {l:List Tk} {k0 m0 kind num:Int} {t0 text:ByteArray} {r0 r1 row:Value} {ab5 acc:List Nd} (h:iT W w0 u S E A N l k0 t0 m0 r0 r1 ab5) (hg:Grow 4 24 LX (N+1) u row acc) (hf:acc.length+l.length≤10000) :
  iT W w0 ((((u.setCell ⟨N,0,none⟩ (.int .i64 kind)).setCell ⟨N,1,none⟩ (.string text)).setCell ⟨N,2,none⟩ (.int .i64 num)).setCell ⟨N,3,none⟩ row) S E A N l kind text num row row acc:=by
 have h1:=h.hS;have h2:=h.hA;have h3:=h.CN
 have hWS:=h.pr.hS;have hC:aB (fun i=>i=N) u ((((u.setCell ⟨N,0,none⟩ (.int .i64 kind)).setCell ⟨N,1,none⟩ (.string text)).setCell ⟨N,2,none⟩ (.int .i64 num)).setCell ⟨N,3,none⟩ row):=ak (ak (ak (ak (aB.refl _ _) 0 _) 1 _) 2 _) 3 _;refine⟨h.pr.aO hC (by omega) (fun i e=>by omega),h.aO.trans hC (fun i hi e=>by omega),h.res.aO hC (by omega),?_,hg.aO fZ hC (fun i e=>by omega),h1,h2,h3,hf⟩
 have:=(((h.nd.set 0 (.int .i64 kind)).set 1 (.string text)).set 2 (.int .i64 num)).set 3 row;exact this
end bn
end Go.Proofs.YtpcihajmcejliacGreatDoor
