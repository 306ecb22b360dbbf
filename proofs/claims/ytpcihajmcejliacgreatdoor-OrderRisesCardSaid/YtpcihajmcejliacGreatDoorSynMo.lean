/- The walk of the program's parser: name, whole, number. A region that draws its order, by what each of its operations comes to: whatever order is drawn, no order is walked. Every operation leaves what was there. A region that draws its order whose operations that turn the world wait for one another: it is as if they were done in the text's order. A region that draws its order: operations that turn what lies there wait for one another; those that only make memory, or only look, may come anywhere between. The parser: a node that is being built, and a kid that is appended to it. The parser in plain Lean: what is read makes the rest shorter. -/
import Derived.Deep.RegionHeld
import Derived.Deep.AppendLies
import Derived.Test.YtpcihajmcejliacGreatDoorNameo
import Derived.Test.YtpcihajmcejliacGreatDoorLexNumo
namespace Go.Proofs.YtpcihajmcejliacGreatDoor
open Go.RowKit
namespace bu
set_option maxRecDepth 100000 in
set_option maxHeartbeats 1000000 in
theorem name_any {W w:World} {S E:Nat} {l:List Tk} (h:bz W w S E l) (hm:cE W) :
  Calls Tryz.prog 96 #[.pointer (some ⟨S,0,none⟩)] w (eC WZ W w S E (fH l)):=by
 have HC:=Z_ (oz h);have yh:=Z_ (fun (u:World) (hE:Ext w u)=>xw (h.extend hE));have HP:=Z_ (fun (u:World) (hE:Ext w u)=>h.extend hE);have HM:=Z_ (fun (u:World) (hE:Ext w u)=>hm.ext (h.ext.ext hE));cases l with
 | nil=>
  have HT:=Z_ (show fH []=.bad [] from rfl);generalize fH []=T at *;simp only [sO] at HC;clear h HP HM;go_enter Tryz.func96,Tryz.ntmps96
  go_wp2_with fail
  refine HC.out.mono ?_
  rintro e w1 ⟨rfl,hE⟩;unfold H9;have hE2:=hE.alloc (.cells #[.int .i64 0,.string ⟨#[]⟩,.int .i64 E] 195);have lG:=Z_ hE2;have HF:=Z_ (yh.out _ hE2);go_wp2_with fail
  refine HF.out.mono ?_
  rintro e w2 ⟨rfl,rU⟩;go_wp2_with fail
  exact⟨rfl,eC.fails (nN (lG.out.ext rU) S) HT.out⟩
 | cons t r=>
  have ho:=F6 h;obtain⟨tk,tt,ta⟩:=t;simp only [sO] at HC;have HT:=Z_ (show fH (⟨tk,tt,ta⟩::r)=if tk=1∧jb.contains tt.data.toList=false then .got tt r else .bad (⟨tk,tt,ta⟩::r) from rfl);generalize fH (⟨tk,tt,ta⟩::r)=T at *;by_cases hk:tk=1
  ·subst hk
   have hw:=ho.word rfl;have hs:=ho.size;simp only at hw hs;have hcw:=name.qg _ hw;obtain⟨R,hR⟩:∃ R,jb.contains tt.data.toList=R:=⟨_,rfl⟩;rw [hR] at hcw;have HCW:=Z_ hcw;have HT2:=Z_ (show T=if R=false then .got tt r else .bad (⟨1,tt,ta⟩::r) by have:=HT.out;rw [hR] at this;simpa using this);have mM:=Z_ hs;clear h hw hcw hR HT ho;go_enter Tryz.func96,Tryz.ntmps96
   go_wp2_with fail
   refine HC.out.mono ?_
   rintro e w1 ⟨rfl,hE⟩;unfold H9;have hA:=aC.made w1 #[.int .i64 1,.string tt,.int .i64 ta] 195;have hE2:=hE.alloc (.cells #[.int .i64 1,.string tt,.int .i64 ta] 195);obtain⟨m,hm2⟩:=HM.out _ hE2;have hsub:((⟨#[32]⟩:ByteArray)++tt++⟨#[32]⟩).data.toList=32::(tt.data.toList ++ [32]):=by simp [ByteArray.data_append]
   have cc:=Tryz.strings_Contains ⟨#[32,100,111,32,101,108,115,101,32,103,105,118,101,115,32,104,105,103,104,32,105,102,32,105,109,112,111,114,116,32,105,110,32,108,111,119,32,109,111,100,117,108,101,32,111,117,116,32,112,114,111,99,32,112,117,98,32,114,101,116,117,114,110,32,119,104,105,108,101,32]⟩ ((⟨#[32]⟩:ByteArray)++tt++⟨#[32]⟩) m _ (by decide) hm2;rw [hsub] at cc;have CC:=Z_ cc;have lG:=Z_ hE2;have HA:=Z_ hA;clear cc hm2 hsub hE hE2 hA;go_wp2_with fail
   refine CC.out.mono ?_
   rintro e w' ⟨rfl,rfl⟩;rw [HCW.out];cases R with
   | true=>
    have HF:=Z_ (yh.out _ lG.out);go_wp2_with fail
    refine HF.out.mono ?_
    rintro e w2 ⟨rfl,rU⟩;go_wp2_with fail
    exact⟨rfl,eC.fails (nN (lG.out.ext rU) S) (by simpa using HT2.out)⟩
   | false=>
    obtain⟨k,hk,hk2,oU⟩:=vT (HP.out _ lG.out);obtain⟨a',n',c',k',hB,-,-⟩:=xu (HP.out _ lG.out);have Uh:w1.heap.size≠S:=by have:=(HP.out _ lG.out).lt;have h7:=HA.out.lt;intro e;subst e;have:=HA.out.cell 1;rw [hk] at this;cases this
    have hf:=hB.frozen 1;have hSl:=hB.lt;have hA2:=HA.out.setOther (p:=⟨S,1,none⟩) Uh (.int .i64 ((k:Int)+1));have hc1:=hA2.cell 1;have hkw:IntKind.i64.wrap ((k:Int)+1)=(k:Int)+1:=by unfold IntKind.wrap;simp only [IntKind.bits,IntKind.signed];simp;omega
    have HP2:=Z_ oU;clear oU hB hA2;go_wp2_with fail
    go_ret
    exact eC.reads (ai (nN lG.out S) 1 _) (by simpa using HT2.out) ⟨rfl,by have:=mM.out;omega⟩ HP2.out
  ·have hk2:(tk != 1)=true:=by simpa using hk
   have HT2:=Z_ (show T=.bad (⟨tk,tt,ta⟩::r) by have:=HT.out;rw [if_neg (fun h=>hk h.1)] at this;exact this);clear h HP HM HT ho;go_enter Tryz.func96,Tryz.ntmps96
   go_wp2_with fail
   refine HC.out.mono ?_
   rintro e w1 ⟨rfl,hE⟩;unfold H9;have hE2:=hE.alloc (.cells #[.int .i64 tk,.string tt,.int .i64 ta] 195);have lG:=Z_ hE2;have HF:=Z_ (yh.out _ hE2);go_wp2_with fail
   refine HF.out.mono ?_
   rintro e w2 ⟨rfl,rU⟩;go_wp2_with fail
   exact⟨rfl,eC.fails (nN (lG.out.ext rU) S) HT2.out⟩
theorem iI (l:List Tk):fH l≠.out:=by
 cases l with
 | nil=>intro h;cases h
 | cons t r=>
  simp only [fH,ne_eq];split<;>simp
theorem di (s:ByteArray) (l:List Tk):dY s l≠.out:=by unfold dY;split<;>intro h<;>cases h
theorem je (l:List Tk):dG l≠.out:=by
 unfold dG;split
 ·intro h;cases h
 ·unfold dY;split<;>intro h<;>cases h
theorem qC (l:List Tk):iL l≠.out:=by
 unfold iL;intro h;cases hn:fH l with
 | out=>exact iI _ hn
 | bad l2=>rw [hn] at h;cases h
 | got s l2=>
  rw [hn] at h;simp only [Out.bind] at h;split at h
  ·cases hn2:fH l2.tail with
   | out=>exact iI _ hn2
   | bad l3=>rw [hn2] at h;cases h
   | got s3 l3=>rw [hn2] at h;cases h
  ·cases h
theorem xQ {l r:List Tk} {s:ByteArray} {W w:World} {S E:Nat} (hP:bz W w S E l) (h:fH l=.got s r):s.size≤3000:=by
 cases l with
 | nil=>cases h
 | cons t q=>
  simp only [fH] at h;split at h
  ·injection h with h1 h2
   subst h1;exact(F6 hP).size
  ·cases h
set_option maxRecDepth 100000 in
set_option maxHeartbeats 1000000 in
theorem qB {W w:World} {S E:Nat} {l:List Tk} (h:bz W w S E l) (hm:cE W) :
  Calls Tryz.prog 333 #[.pointer (some ⟨S,0,none⟩)] w (eC WZ W w S E (iL l)):=by
 have HC:=Z_ (name_any h hm);have HM:=Z_ hm;have mM:=Z_ (fun s r=>xQ (s:=s) (r:=r) h);obtain⟨T,hT⟩:∃ T,iL l=T:=⟨_,rfl⟩;rw [hT];unfold iL at hT;have HT:=Z_ hT;clear h hm hT;go_enter Tryz.func333,Tryz.ntmps333
 go_wp2_with fail
 refine HC.out.mono ?_
 rintro e w1 hr;obtain⟨DV,⟨l1,hp,rfl⟩|⟨s,l1,v,hp,rfl,⟨rfl,hs⟩,hP1⟩⟩:=hr.cases (iI l)
 ·have HF:=Z_ (Out.aF HT.out hp)
  have MW:=Z_ DV;clear hr hp DV;go_wp2_with fail
  exact⟨rfl,eC.fails MW.out HF.out⟩
 ·have HT1:=Z_ (Out.aG HT.out hp)
  have hsz:=mM.out _ _ hp;have MW:=Z_ DV;have HH:=Z_ (dh hP1 H7);clear hr hp DV HC HT mM hP1;generalize fK l1 [H7]=R at *;go_wp2_with fail
  refine HH.out.mono ?_
  rintro e w2 ⟨rfl,hC2,oU⟩;have HC2:=Z_ (MW.out.then hC2);cases R with
  | false=>
   have HP2:=Z_ (show bz W w2 S E l1 by simpa using oU);have HF:=Z_ (show T=.got s l1 by have:=HT1.out;simpa using this.symm);clear oU hC2;go_wp2_with fail
   go_ret
   exact eC.reads HC2.out HF.out ⟨rfl,by omega⟩ HP2.out
  | true=>
   have Jc:bz W w2 S E l1.tail:=by simpa using oU
   have HT2:=Z_ (show (fH l1.tail).bind (fun t l=>.got (s++(H7++t)) l)=T by have:=HT1.out;simpa using this);have HN:=Z_ (name_any Jc HM.out);have mM:=Z_ (fun s r=>xQ (s:=s) (r:=r) Jc);clear oU Jc hC2;go_wp2_with fail
   refine HN.out.mono ?_
   rintro e w3 hr;obtain⟨nU,⟨l3,hp,rfl⟩|⟨s3,l3,v,hp,rfl,⟨rfl,hs3⟩,Jc⟩⟩:=hr.cases (iI l1.tail)
   ·have HF:=Z_ (Out.aF HT2.out hp)
    have wu:=Z_ (HC2.out.then nU);clear hr hp nU;go_wp2_with fail
    exact⟨rfl,eC.fails wu.out HF.out⟩
   ·have HF:=Z_ (Out.aG HT2.out hp)
    have hsz3:=mM.out _ _ hp;have wu:=Z_ (HC2.out.then nU);have UH:=Z_ Jc;have hz1:((⟨#[46]⟩:ByteArray)++s3).size=1+s3.size:=by rw [ByteArray.size_append];rfl
    have hz2:(s++((⟨#[46]⟩:ByteArray)++s3)).size=s.size+(1+s3.size):=by rw [ByteArray.size_append,hz1]
    have HZ:=Z_ hz2;clear hr hp nU Jc hz2;go_wp2_with fail
    go_ret
    exact eC.reads wu.out HF.out.symm ⟨rfl,by show (s++((⟨#[46]⟩:ByteArray)++s3)).size≤7000;rw [HZ.out];omega⟩ UH.out
set_option maxRecDepth 100000 in
set_option maxHeartbeats 1000000 in
theorem lV {W w:World} {S E:Nat} {l:List Tk} (h:bz W w S E l) :
  Calls Tryz.prog 178 #[.pointer (some ⟨S,0,none⟩)] w (eC (fun x v w'=>fN (hide (below w.heap.size) w') x v) W w S E (fD l)):=by
 have lH:=(aB.refl (fun _=>False) w).alloc (.cells #[.int .i64 0,.string ⟨#[]⟩,.int .i64 0,.slice none 0 0] 24);have HA:=Z_ (aC.made w #[.int .i64 0,.string ⟨#[]⟩,.int .i64 0,.slice none 0 0] 24);have HC:=Z_ (oz (h.extend lH));have yh:=Z_ (fun (u:World) (hE:Ext w u)=>xw (h.extend hE));have HP:=Z_ (fun (u:World) (hE:Ext w u)=>h.extend hE);have HX0:=Z_ lH;have hSw:=h.lt;have hWw:=h.ext.size;cases l with
 | nil=>
  have HT:=Z_ (show fD []=.bad [] from rfl);generalize fD []=T at *;simp only [sO] at HC;clear h HP lH;go_enter Tryz.func178,Tryz.ntmps178
  go_wp2_with fail
  refine HC.out.mono ?_
  rintro e w1 ⟨rfl,hE⟩;unfold H9;have hE2:=(HX0.out.ext hE).alloc (.cells #[.int .i64 0,.string ⟨#[]⟩,.int .i64 E] 195);have lG:=Z_ hE2;have HF:=Z_ (yh.out _ hE2);clear hE hE2;go_wp2_with fail
  refine HF.out.mono ?_
  rintro e w2 ⟨rfl,rU⟩;go_wp2_with fail
  exact⟨rfl,eC.fails (nN (lG.out.ext rU) S) HT.out⟩
 | cons t r=>
  have ho:=F6 h;obtain⟨tk,tt,ta⟩:=t;simp only [sO] at HC;have HT:=Z_ (show fD (⟨tk,tt,ta⟩::r)=if tk=2 then .got (.mk 15 aU (valOf tt) []) r else .bad (⟨tk,tt,ta⟩::r) from rfl);generalize fD (⟨tk,tt,ta⟩::r)=T at *;by_cases hk:tk=2
  ·subst hk
   obtain⟨hd1,hd2,hd3⟩:=ho.num rfl;have hs:=ho.size;simp only at hd1 hd2 hd3 hs;have hpi:=rG _ hd1 hd2;rw [if_pos hd3] at hpi;have lM:=Z_ hpi;have HT2:=Z_ (show T=.got (.mk 15 aU (valOf tt) []) r by have:=HT.out;simpa using this);clear h hd1 hd2 hd3 hpi HT ho lH;go_enter Tryz.func178,Tryz.ntmps178
   go_wp2_with fail
   refine HC.out.mono ?_
   rintro e w1 ⟨rfl,hE⟩;unfold H9;have hA:=aC.made w1 #[.int .i64 2,.string tt,.int .i64 ta] 195;have hE2:=(HX0.out.ext hE).alloc (.cells #[.int .i64 2,.string tt,.int .i64 ta] 195);have hR2:=(HA.out.ext hE).alloc (.cells #[.int .i64 2,.string tt,.int .i64 ta] 195);obtain⟨k,hk,hk2,oU⟩:=vT (HP.out _ hE2);obtain⟨a',n',c',k',hB,-,-⟩:=xu (HP.out _ hE2);have hw1:=(HX0.out.ext hE).size;have Uh:w1.heap.size≠S:=by omega
   have hf:=hB.frozen 1;have hSl:=hB.lt;have hA2:=hA.setOther (p:=⟨S,1,none⟩) Uh (.int .i64 ((k:Int)+1));have Iq:=hR2.setOther (p:=⟨S,1,none⟩) (by show w.heap.size≠S;omega) (.int .i64 ((k:Int)+1));have hc1:=hA2.cell 1;have hkw:IntKind.i64.wrap ((k:Int)+1)=(k:Int)+1:=by unfold IntKind.wrap;simp only [IntKind.bits,IntKind.signed];simp;omega
   have HP2:=Z_ oU;have qW:=Z_ (ai (nN hE2 S) 1 (.int .i64 ((k:Int)+1)));have HR3:=Z_ Iq;clear oU hB hA2 hA hE hE2 hR2 Iq;go_wp2_with fail
   generalize (w1.alloc (.cells #[.int .i64 2,.string tt,.int .i64 ta] 195)).setCell ⟨S,1,none⟩ (.int .i64 ((k:Int)+1))=w9 at *;refine(Tryz.strconv_ParseInt_10_at64_ok tt (by omega) _ lM.out _).mono ?_
   rintro e w2 ⟨rfl,hw2⟩
   have vJ:Ext w9 w2:=by
    rcases hw2 with rfl|⟨t,rfl⟩
    ·exact aB.refl _ _
    ·exact lex.yT _ _ _
   have Ig:=Z_ vJ;clear hw2 vJ;have SU:=HR3.out.ext Ig.out;have Uf:=HP2.out.extend Ig.out;have Nj:=qW.out.ext Ig.out;clear Ig HR3 HP2 qW hk hf hc1 hSl;have PK:=Z_ SU;have Og:=Z_ Uf;have UQ:=Z_ Nj;clear SU Uf Nj;have HV:=Z_ (show valOf tt=((decFrom 0 tt.data.toList:Nat):Int) from rfl);obtain⟨V,hV⟩:∃ V:Int,((decFrom 0 tt.data.toList:Nat):Int)=V:=⟨_,rfl⟩;rw [hV] at HV ⊢;clear hV;go_wp2_with fail
   refine(dH _ _ _ _ _ _ _).mono ?_
   rintro e w3 ⟨rfl,xG⟩;have Zd:=PK.out.ext xG;have Zo:=Z_ (Og.out.extend xG);have Tc:=Z_ (UQ.out.ext xG);have Jl:=Z_ Zd;have hc5:=Zd.cell;have hf5:=Zd.frozen;have hl5:=Zd.lt;clear xG Zd;go_wp2_with fail
   refine bG rfl rfl rfl ((((Jl.out.set 0 _).set 1 _).set 2 _).set 3 _) Tryz.underlying24 rfl (by kernel_rfl) ?_
   exact eC.reads ((((Tc.out.bI (p:=⟨w.heap.size,0,none⟩) (by simp) _).bI (p:=⟨w.heap.size,1,none⟩) (by simp) _).bI (p:=⟨w.heap.size,2,none⟩) (by simp) _).bI (p:=⟨w.heap.size,3,none⟩) (by simp) _)
    (x:=.mk 15 aU V []) (l:=r) (by rw [←HV.out];exact HT2.out) (kM _ _ _ _ (by decide)) ((((Zo.out.zY (p:=⟨w.heap.size,0,none⟩) (by simp;omega) (by simp;omega) _).zY (p:=⟨w.heap.size,1,none⟩) (by simp;omega) (by simp;omega) _).zY (p:=⟨w.heap.size,2,none⟩) (by simp;omega) (by simp;omega) _).zY (p:=⟨w.heap.size,3,none⟩) (by simp;omega) (by simp;omega) _)
  ·have hk2:(tk != 2)=true:=by simpa using hk
   have HT2:=Z_ (show T=.bad (⟨tk,tt,ta⟩::r) by have:=HT.out;rw [if_neg hk] at this;exact this);clear h HP HT ho lH;go_enter Tryz.func178,Tryz.ntmps178
   go_wp2_with fail
   refine HC.out.mono ?_
   rintro e w1 ⟨rfl,hE⟩;unfold H9;have hE2:=(HX0.out.ext hE).alloc (.cells #[.int .i64 tk,.string tt,.int .i64 ta] 195);have lG:=Z_ hE2;have HF:=Z_ (yh.out _ hE2);clear hE hE2;go_wp2_with fail
   refine HF.out.mono ?_
   rintro e w2 ⟨rfl,rU⟩;go_wp2_with fail
   exact⟨rfl,eC.fails (nN (lG.out.ext rU) S) HT2.out⟩
end bu
end Go.Proofs.YtpcihajmcejliacGreatDoor
namespace Go.Proofs.YtpcihajmcejliacGreatDoor
open Go.RowKit
namespace specs
def ji (o:Oper) (j:Nat):Bool:=o.after.any fun e=>Region.binds .any e&&e.on == j
def upTo (x:Nat→Value) (t:Nat) (v:Value):Nat→Value:=fun k=>if k=t then v else x k
def xW (l:Array Bool):Nat→Nat
 | 0=>0
 | n+1=>xW l n+if l.getD n false=true then 0 else 1
theorem o8 {l:Array Bool} {i:Nat} (hi:i<l.size) (h:l.getD i false=false):∀ n,i<n→xW (l.setIfInBounds i true) n+1=xW l n:=by
 intro n;induction n with
 | zero=>intro h;omega
 | succ n ih=>
  intro hn
  have hlo:∀ m,m≤i→xW (l.setIfInBounds i true) m=xW l m:=by
   intro m;induction m with
   | zero=>intro _;rfl
   | succ m ihm=>
    intro hm;rw [xW,xW,ihm (by omega),getD_set_ne false (by omega)]
  rw [xW,xW];by_cases e:i=n
  ·subst e
   rw [hlo i (Nat.le_refl _),if_pos (by simp [hi]),h];simp
  ·rw [getD_set_ne false e]
   have:=ih (by omega);omega
theorem qo {l:Array Bool}:∀ n,xW l n=0→∀ i,i<n→l.getD i false=true:=by
 intro n;induction n with
 | zero=>intro _ i hi;omega
 | succ n ih=>
  intro h i hi;rw [xW] at h;by_cases e:i=n
  ·subst e
   by_cases hb:l.getD i false=true
   ·exact hb
   ·rw [if_neg hb] at h;omega
  ·exact ih (by omega) i (by omega)
theorem tH (n m:Nat) (h:n≤m):xW (Array.replicate m false) n=n:=by
 induction n with
 | zero=>rfl
 | succ n ih=>rw [xW,ih (by omega),getD_replicate_false,if_neg (by simp)]
end specs
inductive ak (Pr:Nat→Oper→Prop):Nat→List Oper→Prop where
 | nil {k:Nat}:ak Pr k []
 | cons {k:Nat} {o:Oper} {r:List Oper} (h:Pr k o) (t:ak Pr (k+1) r):ak Pr k (o::r)
theorem ak.get {Pr:Nat→Oper→Prop} {k:Nat} {l:List Oper} (h:ak Pr k l):∀ i o,l[i]? = some o→Pr (k+i) o:=by
 induction h with
 | nil=>intro i o h;simp at h
 | @cons k o' r h t ih=>
  intro i o ho;cases i with
  | zero=>simp at ho;subst ho;exact h
  | succ i=>
   have:=ih i o (by simpa using ho);rw [show k+(i+1)=k+1+i by omega];exact this
end Go.Proofs.YtpcihajmcejliacGreatDoor
namespace Go.Proofs.YtpcihajmcejliacGreatDoor
open Go.RowKit
namespace chain
open specs (ji upTo xW o8 qo tH)
def aY (ops:Array Oper) (i:Nat):Option Nat:=match ops[i]? with|some o=>o.dst|none=>none
def Dp (ops:Array Oper) (i:Nat):Nat:=(aY ops i).getD 0
def at_ (c:List Nat) (i:Nat):Option Nat:=c.findIdx? (· == i)
def okB (ops:Array Oper) (c:List Nat):Bool:=
 ((List.range ops.size).all fun i=>(match ops[i]? with|some o=>o.guard.isNone&&o.after.all (fun e=>!Region.binds .any e || decide (e.on<i))|none=>false)&&(List.range i).all fun j=>(aY ops i).isNone || aY ops i != aY ops j) &&
 (List.range c.length).all fun m=>decide (c.getD m 0<ops.size)&&(m == 0 || (match ops[c.getD m 0]? with|some o=>ji o (c.getD (m-1) 0)|none=>false))&&at_ c (c.getD m 0) == some m
def bf (T:Array Value) (t:Option Nat) (x:Nat→Value):Array Value:=match t with|some t=>T.setIfInBounds t (x t)|none=>T
def fill (ops:Array Oper) (T:Array Value) (x:Nat→Value):Nat→Array Value
 | 0=>T
 | n+1=>bf (fill ops T x n) (aY ops n) x
theorem Dq (T:Array Value) (t:Option Nat) (x:Nat→Value):(bf T t x).size=T.size:=by
 cases t<;>simp [bf]
theorem zi (ops:Array Oper) (T:Array Value) (x:Nat→Value) (n:Nat):(fill ops T x n).size=T.size:=by
 induction n with
 | zero=>rfl
 | succ n ih=>rw [fill,Dq,ih]
theorem Ar (ops:Array Oper) (T:Array Value) (x:Nat→Value) (n k:Nat):(fill ops T x n)[k]? = if (∃ i,i<n∧aY ops i=some k)∧k<T.size then some (x k) else T[k]?:=by
 induction n with
 | zero=>rw [fill,if_neg (by rintro ⟨⟨i,hi,_⟩,_⟩;omega)]
 | succ n ih=>
  rw [fill];cases hd:aY ops n with
  | none=>
   rw [bf,ih];by_cases hc:(∃ i,i<n∧aY ops i=some k)∧k<T.size
   ·rw [if_pos hc]
    obtain⟨⟨i,hi,e'⟩,hk⟩:=hc;rw [if_pos ⟨⟨i,by omega,e'⟩,hk⟩]
   ·rw [if_neg hc,if_neg]
    rintro ⟨⟨i,hi,e'⟩,hk⟩;rcases Nat.lt_or_ge i n with h|h
    ·exact hc ⟨⟨i,h,e'⟩,hk⟩
    ·obtain rfl:i=n:=by omega
     rw [hd] at e';cases e'
  | some t=>
   rw [bf,Array.getElem?_setIfInBounds,ih,zi];by_cases e:t=k
   ·rw [if_pos e]
    by_cases hk:k<T.size
    ·rw [if_pos (by omega),if_pos ⟨⟨n,by omega,by rw [hd,e]⟩,hk⟩,e]
    ·rw [if_neg (by omega),if_neg (fun h=>hk h.2),Array.getElem?_eq_none (by omega)]
   ·rw [if_neg e]
    by_cases hc:(∃ i,i<n∧aY ops i=some k)∧k<T.size
    ·rw [if_pos hc]
     obtain⟨⟨i,hi,e'⟩,hk⟩:=hc;rw [if_pos ⟨⟨i,by omega,e'⟩,hk⟩]
    ·rw [if_neg hc,if_neg]
     rintro ⟨⟨i,hi,e'⟩,hk⟩;rcases Nat.lt_or_ge i n with h|h
     ·exact hc ⟨⟨i,h,e'⟩,hk⟩
     ·obtain rfl:i=n:=by omega
      rw [hd] at e';cases e';exact e rfl
theorem Mc (ops:Array Oper) (T:Array Value) (x:Nat→Value) (n i t:Nat) (hi:i<n) (ht:aY ops i=some t) (v:Value):(fill ops T x n).setIfInBounds t v=fill ops T (upTo x t v) n:=by
 refine Array.ext_getElem? fun k=>?_
 rw [Array.getElem?_setIfInBounds,Ar,Ar,zi];by_cases e:t=k
 ·subst e
  rw [if_pos rfl];by_cases hk:t<T.size
  ·rw [if_pos hk,if_pos ⟨⟨i,hi,ht⟩,hk⟩]
   unfold upTo;rw [if_pos rfl]
  ·rw [if_neg hk,if_neg (fun h=>hk h.2),Array.getElem?_eq_none (by omega)]
 ·rw [if_neg e]
  have:upTo x t v k=x k:=by unfold upTo;rw [if_neg (fun h=>e h.symm)]
  rw [this]
theorem zk (ops:Array Oper) (T:Array Value) (n:Nat):fill ops T (fun k=>T.getD k undef) n=T:=by
 refine Array.ext_getElem? fun k=>?_
 rw [Ar];split
 ·rename_i h
  rw [Array.getElem?_eq_getElem h.2];simp [h.2]
 ·rfl
def aN (ops:Array Oper) (a:Act) (x:Nat→Value):Act:={ a with tmps:=fill ops a.tmps x ops.size }
def slots (ops:Array Oper) (i:Nat) (x:Nat→Value) (v:Value):Nat→Value:=match aY ops i with|some t=>upTo x t v|none=>x
theorem Gm {ops:Array Oper} {c:List Nat} (h:okB ops c=true) {i:Nat} {o:Oper} (ho:ops[i]? = some o):o.guard=none∧(∀ e∈o.after,Region.binds .any e=true→e.on<i)∧∀ j t,j<i→aY ops i=some t→aY ops j≠some t:=by
 have hi:=(Array.getElem?_eq_some_iff.1 ho).1;have h1:=List.all_eq_true.1 (Bool.and_eq_true_iff.1 h).1 i (List.mem_range.2 hi);rw [ho] at h1;simp only [Bool.and_eq_true,List.all_eq_true,List.mem_range,Bool.or_eq_true,bne_iff_ne,Array.all_eq_true_iff_forall_mem,decide_eq_true_eq,Option.isNone_iff_eq_none] at h1;refine⟨h1.1.1,fun e he hb=>by have:=h1.1.2 e he;rw [hb] at this;simpa using this,fun j t hj ht e=>?_⟩
 rcases h1.2 j hj with h2|h2
 ·rw [h2] at ht;cases ht
 ·exact h2 (ht.trans e.symm)
theorem tJ {ops:Array Oper} {c:List Nat} (h:okB ops c=true) {m:Nat} (hm:m<c.length):c.getD m 0<ops.size∧(m=0∨∃ o,ops[c.getD m 0]? = some o∧ji o (c.getD (m-1) 0)=true)∧at_ c (c.getD m 0)=some m:=by
 have h1:=List.all_eq_true.1 (Bool.and_eq_true_iff.1 h).2 m (List.mem_range.2 hm);simp only [Bool.and_eq_true,Bool.or_eq_true,beq_iff_eq,decide_eq_true_eq] at h1;refine⟨h1.1.1,?_,h1.2⟩
 rcases h1.1.2 with h2|h2
 ·exact .inl h2
 ·cases ho:ops[c.getD m 0]? with
  | none=>rw [ho] at h2;cases h2
  | some o=>rw [ho] at h2;exact .inr ⟨o,rfl,h2⟩
theorem qF {c:List Nat} {i m:Nat} (h:at_ c i=some m):m<c.length∧c.getD m 0=i:=by
 unfold at_ at h;rw [List.findIdx?_eq_some_iff_getElem] at h;obtain⟨h1,h2,-⟩:=h;refine⟨h1,?_⟩
 simp only [beq_iff_eq] at h2;simp [h1,h2]
theorem Ui {ops:Array Oper} {c:List Nat} (h:okB ops c=true) {i j t:Nat} (hi:i<ops.size) (hj:j<ops.size) (hne:i≠j) (ht:aY ops i=some t):aY ops j≠some t:=by
 rcases Nat.lt_or_gt_of_ne hne with h'|h'
 ·intro e
  exact(Gm h (Array.getElem?_eq_getElem hj)).2.2 i t h' e ht
 ·exact(Gm h (Array.getElem?_eq_getElem hi)).2.2 j t h' ht
theorem zl {ops:Array Oper} (a:Act) (x:Nat→Value) {i:Nat} {o:Oper} (ho:ops[i]? = some o) (v:Value):(aN ops a x).put o.dst v=aN ops a (slots ops i x v):=by
 have hd:aY ops i=o.dst:=by unfold aY;rw [ho]
 unfold aN Act.put slots;rw [hd];cases hod:o.dst with
 | none=>rfl
 | some t=>
  simp only
  rw [Mc _ _ _ _ i t (Array.getElem?_eq_some_iff.1 ho).1 (by rw [hd,hod])]
theorem IX {ops:Array Oper} {c:List Nat} {l:Array Bool} (hB:okB ops c=true) (hs:l.size=ops.size):∀ d i,i=d→i<ops.size→l.getD i false=false→∃ j,j∈Region.ready .any ops l:=by
 intro d;induction d using Nat.strongRecOn with
 | _ d ih=>
  intro i hd hi hun;have ho:=Array.getElem?_eq_getElem hi;by_cases hall:∀ e∈ops[i].after,Region.binds .any e=true→l.getD e.on false=true
  ·have hil:i<l.size:=by omega
   have Uj:l.getD i true=false:=by simp [hil] at hun ⊢;exact hun
   exact⟨i,mem_ready.2 ⟨Uj,ops[i],ho,hall⟩⟩
  ·simp only [Classical.not_forall] at hall
   obtain⟨e,he,hbd,hl⟩:=hall;have hlt:=(Gm hB ho).2.1 e he hbd;exact ih e.on (by omega) e.on rfl (by omega) (by simpa using hl)
end chain
end Go.Proofs.YtpcihajmcejliacGreatDoor
namespace Go.Proofs.YtpcihajmcejliacGreatDoor
open Go.RowKit
namespace az
open chain
open specs (ji upTo xW o8 qo tH)
def known (ops:Array Oper) (c:List Nat) (Sp:Nat→Value→World→Prop) (x:Nat→Value) (vs:List Value) (w:World) (j:Nat):Prop:=
 match at_ c j with
 | some m=>∀ t,aY ops j=some t→x t=vs.getD m undef
 | none=>Sp j (x (Dp ops j)) w
structure Inv (ops:Array Oper) (c:List Nat) (Sp:Nat→Value→World→Prop) (F:List Value→World→Prop) (l:Array Bool) (x:Nat→Value) (w:World) (vs:List Value):Prop where
 size:l.size=ops.size
 holds:F vs w
 len:vs.length≤c.length
 closed:∀ j o,ops[j]? = some o→l.getD j false=true→∀ e∈o.after,Region.binds .any e=true→l.getD e.on false=true
 done:∀ m,m<c.length→(l.getD (c.getD m 0) false=true↔m<vs.length)
 yes:∀ i,i<ops.size→l.getD i false=true→known ops c Sp x vs w i
def Gn (ops:Array Oper) (c:List Nat):Bool:=(List.range ops.size).all fun i=>(at_ c i).isSome || (aY ops i).isSome
def Step (P:Program) (ops:Array Oper) (n:Nat) (c:List Nat) (Sp:Nat→Value→World→Prop) (F:List Value→World→Prop) (G:World→World→Prop) (frame:(Nat→Value)→Act) (Q:Exit→Act→World→Prop) (i:Nat) (o:Oper):Prop:=
 ∀ x vs w,F vs w→(∀ m,at_ c i=some m→vs.length=m)→(∀ m o',m<c.length→ops[c.getD m 0]? = some o'→ji o' i=true→vs.length≤m)→(∀ j,j<n→ji o j=true→known ops c Sp x vs w j)→
  ∀ K:Act→World→Prop,Shut (∀ a' w' v,a'=(frame x).put o.dst v→G w w'→(match at_ c i with|some _=>F (vs ++ [v]) w'|none=>Sp i v w'∧F vs w')→K a' w')→Oper.wp P o (frame x) w K Q
theorem run {P:Program} {ops:Array Oper} {Q:Exit→Act→World→Prop} {a:Act} (c:List Nat) (Sp:Nat→Value→World→Prop) (F:List Value→World→Prop) (G:World→World→Prop) (hB:okB ops c=true) (hS:Gn ops c=true)
  (Fg:∀ i v w w',Sp i v w→G w w'→Sp i v w')
  (step:∀ i o,ops[i]? = some o→Step P ops ops.size c Sp F G (aN ops a) Q i o)
  (fin:∀ x vs w,vs.length=c.length→F vs w→(∀ i,i<ops.size→known ops c Sp x vs w i)→Q .normal (aN ops a x) w) :
  ∀ (fuel:Nat) (l:Array Bool) (x:Nat→Value) (w:World) (vs:List Value),xW l ops.size=fuel→Inv ops c Sp F l x w vs→wpAny P .any ops Q fuel l (aN ops a x) w:=by
 intro fuel;induction fuel with
 | zero=>
  intro l x w vs hu hI;have hall:=qo _ hu;refine⟨?_,fin x vs w ?_ hI.holds fun i hi=>hI.yes i hi (hall i hi)⟩
  ·rw [List.eq_nil_iff_forall_not_mem]
   intro j hj;obtain⟨h1,o,ho,-⟩:=mem_ready.1 hj;have hj':=(Array.getElem?_eq_some_iff.1 ho).1;have h2:=hall j hj';have hjl:j<l.size:=by rw [hI.size];exact hj'
   simp [hjl] at h1 h2
   rw [h1] at h2;cases h2
  ·rcases Nat.lt_or_ge vs.length c.length with h|h
   ·have:=(hI.done _ h).1 (hall _ (tJ hB h).1)
    omega
   ·have:=hI.len;omega
 | succ fuel ih=>
  intro l x w vs hu hI;refine⟨fun h0=>?_,fun i hi=>?_⟩
  ·exfalso
   have:∃ i,i<ops.size∧l.getD i false=false:=by
    by_cases hc:∃ i,i<ops.size∧l.getD i false=false
    ·exact hc
    ·exfalso
     have hz:∀ n,n≤ops.size→xW l n=0:=by
      intro n;induction n with
      | zero=>intro _;rfl
      | succ n ihn=>
       intro hn;rw [xW,ihn (by omega),if_pos];cases hb:l.getD n false
       ·exact absurd ⟨n,by omega,hb⟩ hc
       ·rfl
     rw [hz _ (Nat.le_refl _)] at hu;omega
   obtain⟨i,hi,hb⟩:=this;obtain⟨j,hj⟩:=IX hB hI.size i i rfl hi hb;rw [h0] at hj;cases hj
  ·obtain⟨h1,o,ho,hall⟩:=mem_ready.1 hi
   have Pz:=(Array.getElem?_eq_some_iff.1 ho).1;have hil:i<l.size:=by rw [hI.size];exact Pz
   have h1':l.getD i false=false:=by simp [hil] at h1 ⊢;exact h1
   have Md:∀ j,ji o j=true→l.getD j false=true:=fun j hw=>by
    obtain⟨e,he,hb⟩:=Array.any_eq_true'.1 hw;simp only [Bool.and_eq_true,beq_iff_eq] at hb;rw [←hb.2];exact hall e he hb.1
   have hlen:∀ m,at_ c i=some m→vs.length=m:=fun m hm=>by
    obtain⟨hmc,IY⟩:=qF hm
    have hno:¬ m<vs.length:=fun h=>by
     have:=(hI.done m hmc).2 h;rw [IY,h1'] at this;cases this
    rcases (tJ hB hmc).2.1 with h|⟨o',ho',hw⟩
    ·omega
    ·rw [IY] at ho'
     obtain rfl:o'=o:=Option.some.inj (ho'.symm.trans ho);rcases Nat.eq_zero_or_pos m with h0|h0
     ·omega
     ·have:=(hI.done (m-1) (by omega)).1 (Md _ hw)
      omega
   have hbef:∀ m o',m<c.length→ops[c.getD m 0]? = some o'→ji o' i=true→vs.length≤m:=fun m o' hm ho' hw=>by
    rcases Nat.lt_or_ge m vs.length with h|h
    ·exfalso
     have hl:=(hI.done m hm).2 h;obtain⟨e,he,hb⟩:=Array.any_eq_true'.1 hw;simp only [Bool.and_eq_true,beq_iff_eq] at hb;have:=hI.closed _ o' ho' hl e he hb.1;rw [hb.2,h1'] at this;cases this
    ·exact h
   refine wpOp_step ho fun K hK=>?_
   have hwd:Region.wanted o (yielded ops (aN ops a x).tmps)=true:=by simp [Region.wanted,(Gm hB ho).1]
   rw [if_pos hwd];refine step i o ho x vs w hI.holds hlen hbef (fun j hj hw=>hI.yes j hj (Md j hw)) K (fun a' w' v ha' hG hv=>hK a' w' ?_)
   subst ha';rw [zl a x ho]
   have hne:∀ j t u,j<ops.size→j≠i→aY ops j=some t→slots ops i x u t=x t:=fun j t u hj hne ht=>by
    unfold slots;cases hd:aY ops i with
    | none=>rfl
    | some t'=>
     simp only [upTo];rw [if_neg];rintro rfl;exact Ui hB Pz hj (Ne.symm hne) hd ht
   have heq:∀ t u,aY ops i=some t→slots ops i x u t=u:=fun t u ht=>by
    unfold slots;rw [ht];simp [upTo]
   have hdst:∀ j,j<ops.size→at_ c j=none→aY ops j=some (Dp ops j):=fun j hj hc=>by
    have:=List.all_eq_true.1 hS j (List.mem_range.2 hj);rw [hc] at this;simp only [Option.isSome_none,Bool.false_or] at this;obtain⟨t,ht⟩:=Option.isSome_iff_exists.1 this;unfold Dp;rw [ht];rfl
   have hold:∀ j,j<ops.size→l.getD j false=true→j≠i→∀ vs',(∀ m,m<vs.length→vs'.getD m undef=vs.getD m undef)→known ops c Sp (slots ops i x v) vs' w' j:=fun j hj hl hji vs' hvs=>by
    have hk:=hI.yes j hj hl;unfold known at hk ⊢;cases hcj:at_ c j with
    | none=>
     rw [hcj] at hk;simp only at hk ⊢;rw [hne j _ v hj hji (hdst j hj hcj)];exact Fg _ _ _ _ hk hG
    | some m=>
     rw [hcj] at hk;simp only at hk ⊢;intro t ht;rw [hne j t v hj hji ht,hk t ht];obtain⟨hmc,hmj⟩:=qF hcj;exact(hvs m ((hI.done m hmc).1 (by rw [hmj];exact hl))).symm
   cases hc:at_ c i with
   | none=>
    rw [hc] at hv;obtain⟨hsp,hF⟩:=hv;refine ih _ _ _ vs (by have:=o8 hil h1' ops.size Pz;omega) ⟨by simp [hI.size],hF,hI.len,fun j oj hoj hl e he hb=>?_,fun m hm=>?_,fun j hj hl=>?_⟩
    ·by_cases e':i=j
     ·subst e'
      obtain rfl:oj=o:=Option.some.inj (hoj.symm.trans ho);exact getD_set_true (hall e he hb)
     ·rw [getD_set_ne false e'] at hl
      exact getD_set_true (hI.closed j oj hoj hl e he hb)
    ·have IY:c.getD m 0≠i:=fun e=>by
      have:=(tJ hB hm).2.2;rw [e,hc] at this;cases this
     rw [getD_set_ne false (Ne.symm IY)];exact hI.done m hm
    ·by_cases e':j=i
     ·subst e'
      unfold known;rw [hc];simp only
      rw [heq _ _ (hdst _ hj hc)];exact hsp
     ·rw [getD_set_ne false (Ne.symm e')] at hl
      exact hold j hj hl e' vs fun _ _=>rfl
   | some m=>
    rw [hc] at hv;have hvl:=hlen m hc;obtain⟨hmc,IY⟩:=qF hc;refine ih _ _ _ (vs ++ [v]) (by have:=o8 hil h1' ops.size Pz;omega) ⟨by simp [hI.size],hv,by simp;omega,fun j oj hoj hl e he hb=>?_,fun m' hm'=>?_,fun j hj hl=>?_⟩
    ·by_cases e':i=j
     ·subst e'
      obtain rfl:oj=o:=Option.some.inj (hoj.symm.trans ho);exact getD_set_true (hall e he hb)
     ·rw [getD_set_ne false e'] at hl
      exact getD_set_true (hI.closed j oj hoj hl e he hb)
    ·rw [List.length_append,List.length_singleton,hvl]
     by_cases e':m'=m
     ·subst e'
      rw [IY];simp [hil]
     ·have Uk:c.getD m' 0≠i:=fun e=>by
       have:=(tJ hB hm').2.2;rw [e,hc] at this;cases this;exact e' rfl
      rw [getD_set_ne false (Ne.symm Uk),hI.done m' hm',hvl];omega
    ·by_cases e':j=i
     ·subst e'
      unfold known;rw [hc];simp only
      intro t ht;rw [heq t _ ht];simp [←hvl]
     ·rw [getD_set_ne false (Ne.symm e')] at hl
      exact hold j hj hl e' _ fun m' hm'=>by simp [List.getElem?_append_left hm']
end az
open specs az in
theorem aj {P:Program} {id:Nat} {l:List Oper} {Q:Exit→Act→World→Prop} {a:Act} {w:World} (c:List Nat) (Sp:Nat→Value→World→Prop) (F:List Value→World→Prop) (G:World→World→Prop) {frame:(Nat→Value)→Act} (hf:∀ x,chain.aN l.toArray a x=frame x) (hm:P.follows .mixedOrders=true) (hB:chain.okB l.toArray c=true) (hS:Gn l.toArray c=true)
  (Fg:∀ i v w w',Sp i v w→G w w'→Sp i v w')
  (h0:F [] w.drew)
  (step:ak (fun i o=>az.Step P l.toArray l.length c Sp F G frame Q i o) 0 l)
  (fin:∀ x vs w1,vs.length=c.length→F vs w1→(∀ i,i<l.length→az.known l.toArray c Sp x vs w1 i)→Q .normal (frame x) w1):(Code.region id l.toArray true).wp P Q a w:=by
 have ha:chain.aN l.toArray a (fun k=>a.tmps.getD k undef)=a:=by unfold chain.aN;rw [chain.zk]
 have hfe:chain.aN l.toArray a=frame:=funext hf;refine wp_region_any hm ?_
 have h:=az.run (P:=P) (ops:=l.toArray) (Q:=Q) (a:=a) c Sp F G hB hS Fg (fun i o ho=>by
   have h:=step.get i o (by simpa using ho);rw [Nat.zero_add] at h;rw [hfe];simpa using h) (fun x vs w1 hl hF hs=>by rw [hf];exact fin x vs w1 hl hF fun i hi=>hs i (by simpa using hi)) l.toArray.size (Array.replicate l.toArray.size false) (fun k=>a.tmps.getD k undef) w.drew [] (tH _ _ (Nat.le_refl _))
  ⟨by simp,h0,by simp,fun j o ho hl=>(by rw [getD_replicate_false] at hl;cases hl),fun m hm=>(by rw [getD_replicate_false];simp),fun i hi hl=>(by rw [getD_replicate_false] at hl;cases hl)⟩
 rw [ha] at h;exact h
end Go.Proofs.YtpcihajmcejliacGreatDoor
namespace Go.Proofs.YtpcihajmcejliacGreatDoor
open Go.RowKit
namespace bu
theorem mixed:Tryz.prog.follows .mixedOrders=true:=by kernel_rfl
theorem eU:(Tryz.prog.info? 24).map (fun i=>(i.zero,i.size,i.bytes))=some (some (.agg #[.int .i64 0,.string ⟨#[]⟩,.int .i64 0,.slice none 0 0]),4,56):=by kernel_rfl
theorem aW {o:Option TypeInfo} {z:Option Value} {s b:Nat} (h:o.map (fun i=>(i.zero,i.size,i.bytes))=some (z,s,b)):∃ i,o=some i∧i.zero=z∧i.size=s∧i.bytes=b:=by
 cases o with
 | none=>cases h
 | some i=>
  simp only [Option.map_some,Option.some.injEq,Prod.mk.injEq] at h;exact⟨i,rfl,h.1,h.2.1,h.2.2⟩
def bK:Array Value:=#[.int .i64 0,.string ⟨#[]⟩,.int .i64 0,.slice none 0 0]
def VN (H:Nat) (x:Nd) (v:Value) (w':World):Prop:=fN (hide (below H) w') x v
structure iU (W w0 u:World) (S E A N:Nat) (l:List Tk) (kind:Int) (text:ByteArray) (num:Int) (kG row:Value) (acc:List Nd):Prop where
 pr:bz W u S E l
 aK:aB (fun i=>i=S) w0 u
 res:aC u A bK 24
 nd:aC u N #[.int .i64 kind,.string text,.int .i64 num,kG] 24
 grow:Grow 4 24 OH (N+1) u row acc
 hS:S<w0.heap.size
 hA:w0.heap.size≤A
 DK:A<N
 few:acc.length+l.length≤10000
theorem iU.call {W w0 u u':World} {S E A N:Nat} {l l':List Tk} {kind num:Int} {text:ByteArray} {kG row:Value} {acc:List Nd} (h:iU W w0 u S E A N l kind text num kG row acc) (hC:aB (fun i=>i=S) u u') (hP:bz W u' S E l') (hl:l'.length≤l.length) :
  iU W w0 u' S E A N l' kind text num kG row acc:=by
 have h1:=h.hS;have h2:=h.hA;have h3:=h.DK;have h4:=h.few
 exact⟨hP,h.aK.then hC,h.res.aK hC (by omega),h.nd.aK hC (by omega),h.grow.aK fP hC (fun i hi=>by omega),h1,h2,h3,by omega⟩
theorem iU.extend {W w0 u u':World} {S E A N:Nat} {l:List Tk} {kind num:Int} {text:ByteArray} {kG row:Value} {acc:List Nd} (h:iU W w0 u S E A N l kind text num kG row acc) (hE:Ext u u'):iU W w0 u' S E A N l kind text num kG row acc:=
 h.call (nN hE S) (h.pr.extend hE) (Nat.le_refl _)
theorem iU.lt {W w0 u:World} {S E A N:Nat} {l:List Tk} {kind num:Int} {text:ByteArray} {kG row:Value} {acc:List Nd} (h:iU W w0 u S E A N l kind text num kG row acc):N<u.heap.size:=h.nd.lt
theorem iU.slice {W w0 u:World} {S E A N:Nat} {l:List Tk} {kind num:Int} {text:ByteArray} {kG row:Value} {acc:List Nd} (h:iU W w0 u S E A N l kind text num kG row acc):∃ a c,row=.slice a acc.length c:=by
 obtain⟨us,_,ho,_⟩:=h.grow.ex;rcases ho.2 with ⟨rfl,h0⟩|⟨g,cap,cur,rfl,_⟩
 ·exact⟨_,_,by rw [h0]⟩
 ·exact⟨_,_,rfl⟩
theorem iU.start {W w0 u:World} {S E A N:Nat} {l:List Tk} {kind num:Int} {text:ByteArray} (hP:bz W u S E l) (hC:aB (fun i=>i=S) w0 u) (hR:aC u A bK 24) (hN:aC u N #[.int .i64 kind,.string text,.int .i64 num,.slice none 0 0] 24)
  (hS:S<w0.heap.size) (hA:w0.heap.size≤A) (DK:A<N) (hl:l.length≤10000):iU W w0 u S E A N l kind text num (.slice none 0 0) (.slice none 0 0) []:=
 ⟨hP,hC,hR,hN,Grow.nil _ _ _ _ _,hS,hA,DK,by simpa using hl⟩
theorem EJ {W w:World} {S E:Nat} {l:List Tk} (h:bz W w S E l):l.length≤10000:=by
 obtain⟨a,n,c,k,hb,h1,h2,h3⟩:=h.ex;omega
def fJ (W w0:World) (S E A N:Nat) (l:List Tk) (kind:Int) (text:ByteArray) (num:Int) (row:Value) (acc:List Nd) (T:Out Nd):List Value→World→Prop
 | [],u=>iU W w0 u S E A N l kind text num row row acc
 | [v],u=>∃ x l',Hid (T=.got x l')∧iU W w0 u S E A N l' kind text num row row acc∧acc.length+1+l'.length≤10000∧fN (hide (bg (N+1) row) u) x v
 | [v,s],u=>∃ x l',Hid (T=.got x l')∧iU W w0 u S E A N l' kind text num row row acc∧acc.length+1+l'.length≤10000∧fN (hide (bg (N+1) row) u) x v∧∃ g,s=.slice (some ⟨g,0,none⟩) 1 1∧aC u g v.cells 24∧row.ownBlock≠some g
 | [_,_,r],u=>∃ x l',Hid (T=.got x l')∧iU W w0 u S E A N l' kind text num row r (acc ++ [x])∧∃ g c,r=.slice (some ⟨g,0,none⟩) (acc.length+1) c
 | [_,_,r,_],u=>∃ x l',Hid (T=.got x l')∧iU W w0 u S E A N l' kind text num r r (acc ++ [x])
 | _,_=>False
theorem fJ.cell {W w0 u:World} {S E A N:Nat} {l:List Tk} {kind num:Int} {text:ByteArray} {row:Value} {acc:List Nd} {T:Out Nd} {vs:List Value} (h:fJ W w0 S E A N l kind text num row acc T vs u) (hv:vs.length≤2):u.cell? ⟨N,3,none⟩=some row:=by
 match vs,hv,h with
 | [],_,h=>exact(show iU .. from h).nd.cell 3
 | [_],_,⟨x,l',_,h,_⟩=>exact h.nd.cell 3
 | [_,_],_,⟨x,l',_,h,_⟩=>exact h.nd.cell 3
theorem fQ {W w0 u u2:World} {S E A N:Nat} {l l':List Tk} {kind num:Int} {text:ByteArray} {row:Value} {acc:List Nd} {T:Out Nd} {x:Nd} {v:Value} (h:iU W w0 u S E A N l kind text num row row acc) (hC:aB (fun i=>i=S) u u2) (hT:T=.got x l') (hV:VN u.heap.size x v u2) (hP:bz W u2 S E l') (hl:l'.length<l.length) :
  fJ W w0 S E A N l kind text num row acc T [v] u2:=by
 have h4:=h.few;refine⟨x,l',Z_ hT,h.call hC hP (by omega),by omega,aX (aT (Nat.le_refl _) fun i hi hm=>?_) _ _ hV⟩
 simp only [below,bg,decide_eq_false_iff_not,Bool.or_eq_false_iff] at hm ⊢;have h1:=h.lt;refine⟨⟨by omega,fun e=>?_⟩,trivial⟩
 obtain⟨us,_,ho,_⟩:=h.grow.ex;have:=(World.ownsRow.lt ho i e).2;omega
theorem dU {W w0 u:World} {S E A N:Nat} {l:List Tk} {kind num:Int} {text:ByteArray} {row:Value} {acc:List Nd} {T:Out Nd} {v:Value} (h:fJ W w0 S E A N l kind text num row acc T [v] u) {c:Array Value} (hc:v.cells=c) :
  fJ W w0 S E A N l kind text num row acc T [v,.slice (some ⟨u.heap.size,0,none⟩) 1 1] (u.alloc (.cells c 24)):=by
 obtain⟨x,l',hT,hB,hl,hx⟩:=h;have hE:=(aB.refl (fun _=>False) u).alloc (.cells c 24);refine⟨x,l',hT,hB.extend hE,hl,aX (aH hE fun _ _ h=>h.elim) _ _ hx,_,rfl,by rw [hc];exact aC.made _ _ _,fun e=>?_⟩
 obtain⟨us,_,ho,_⟩:=hB.grow.ex;have:=(World.ownsRow.lt ho _ e).2;omega
theorem push_append {W w0 u u':World} {S E A N:Nat} {l:List Tk} {kind num:Int} {text:ByteArray} {row v s:Value} {acc:List Nd} {T:Out Nd} {us:List Value} (h:fJ W w0 S E A N l kind text num row acc T [v,s] u) (hus:us.length=acc.length)
  (hu3:∀ j (h:j<acc.length) (h':j<us.length),OH acc[j] us[j] (hide (bg (N+1) row) u)∧us[j].cells.size=4) {g c:Nat}
  (ho:u'.ownsRow (N+1) 24 4 (.slice (some ⟨g,0,none⟩) (acc.length+1) c) (acc.length+1) (us.flatMap (fun u=>u.cells.toList)++v.cells.toList))
  (hg:u.grownBy u' row.ownBlock) (ha:row.ownBlock=some g∨g=u.heap.size) :
  fJ W w0 S E A N l kind text num row acc T [v,s,.slice (some ⟨g,0,none⟩) (acc.length+1) c] u':=by
 obtain⟨x,l',hT,hB,hl,hx,-⟩:=h;have h1:=hB.hS;have h2:=hB.hA;have h3:=hB.DK;have h4:=hB.few
 have hrow:∀ i,row.ownBlock=some i→N+1≤i:=fun i e=>by
  obtain⟨us,_,ho,_⟩:=hB.grow.ex;exact(World.ownsRow.lt ho i e).1
 have hC:aB (fun i=>row.ownBlock=some i) u u':=⟨hg.os,hg.tape,hg.output,hg.size,fun i hi hn=>hg.block i hi (by first|exact hn|exact fun e=>hn e.symm)⟩;have hn:N<u.heap.size:=hB.lt;refine⟨x,l',hT,⟨hB.pr.aK hC (fun e=>by have:=hrow _ e;omega) (fun i e=>by have:=hrow _ e;have:=hB.pr.hS;omega),hB.aK.trans hC (fun i hi e=>by have:=hrow _ e;omega),hB.res.aK hC (fun e=>by have:=hrow _ e;omega),hB.nd.aK hC (fun e=>by have:=hrow _ e;omega),?_,h1,h2,h3,by rw [List.length_append,List.length_singleton];omega⟩,g,c,rfl⟩
 exact Grow.push fP hus hu3 hx (fB hx) ho hg.size (fun i hi hne=>hC.block i hi hne) (fun i e=>by
  have:g=i:=by simpa [Value.ownBlock] using e
  subst this;rcases ha with ha|ha
  ·exact .inl ha
  ·exact .inr (by omega))
theorem dV {W w0 u:World} {S E A N:Nat} {l:List Tk} {kind num:Int} {text:ByteArray} {row v s r z:Value} {acc:List Nd} {T:Out Nd} (h:fJ W w0 S E A N l kind text num row acc T [v,s,r] u):fJ W w0 S E A N l kind text num row acc T [v,s,r,z] (u.setCell ⟨N,3,none⟩ r):=by
 obtain⟨x,l',hT,hB,-⟩:=h;have h1:=hB.hS;have h2:=hB.hA;have h3:=hB.DK
 have hWS:=hB.pr.hS;have hC:aB (fun i=>i=N) u (u.setCell ⟨N,3,none⟩ r):=ai (aB.refl _ _) 3 r;refine⟨x,l',hT,hB.pr.aK hC (by omega) (fun i e=>by omega),hB.aK.bI (p:=⟨N,3,none⟩) (by show w0.heap.size≤N;omega) _,hB.res.setOther (p:=⟨N,3,none⟩) (by show A≠N;omega) _,?_,hB.grow.aK fP hC (fun i e=>by omega),h1,h2,h3,hB.few⟩
 have:=hB.nd.set 3 r;exact this
theorem iU.ret {W w0 u:World} {S E A N:Nat} {l:List Tk} {kind num:Int} {text:ByteArray} {row:Value} {acc:List Nd} {T:Out Nd} (h:iU W w0 u S E A N l kind text num row row acc) (ht:text.size≤10000) (hT:T=.got (.mk kind text num acc) l) (a b c d:Value) :
  eC (VN w0.heap.size) W w0 S E T (.returned (.agg #[.int .i64 kind,.string text,.int .i64 num,row])) ((((u.setCell ⟨A,0,none⟩ a).setCell ⟨A,1,none⟩ b).setCell ⟨A,2,none⟩ c).setCell ⟨A,3,none⟩ d):=by
 have h1:=h.hS;have h2:=h.hA;have h3:=h.DK
 have hWS:=h.pr.hS;have hC:aB (fun i=>i=A) u ((((u.setCell ⟨A,0,none⟩ a).setCell ⟨A,1,none⟩ b).setCell ⟨A,2,none⟩ c).setCell ⟨A,3,none⟩ d):=ai (ai (ai (ai (aB.refl _ _) 0 a) 1 b) 2 c) 3 d;refine eC.reads (h.aK.trans hC fun i hi e=>by omega) hT ?_ (h.pr.aK hC (by omega) (fun i e=>by omega))
 exact BQ (pY (H6 h.grow ht) hC (fun i e=>by omega)) (by omega)
def Ul (S:Nat):NT→Option (FuncId×Array Value)
 | .expr=>some (331,#[.pointer (some ⟨S,0,none⟩)])
 | .bound k=>some (364,#[.pointer (some ⟨S,0,none⟩),.int .i64 (k:Nat)])
 | .unary=>some (375,#[.pointer (some ⟨S,0,none⟩)])
 | .asked=>some (334,#[.pointer (some ⟨S,0,none⟩)])
 | .place s=>some (335,#[.pointer (some ⟨S,0,none⟩),.string s])
 | .call s=>some (332,#[.pointer (some ⟨S,0,none⟩),.string s])
 | .block=>some (229,#[.pointer (some ⟨S,0,none⟩)])
 | .stat=>some (276,#[.pointer (some ⟨S,0,none⟩)])
 | .decl=>some (98,#[.pointer (some ⟨S,0,none⟩)])
 | .proc dR=>some (176,#[.pointer (some ⟨S,0,none⟩),.int .i64 dR])
 | .module=>some (48,#[.pointer (some ⟨S,0,none⟩)])
 | _=>none
def Ze:NT→Prop
 | .bound k=>k≤3
 | .place s=>s.size≤7000
 | .call s=>s.size≤7000
 | .proc dR=>0≤dR∧dR≤2
 | _=>True
def Good (n:Nat):Prop:=∀ {W w:World} {S E:Nat} {l:List Tk} (X:NT) (f:FuncId) (a:Array Value),bz W w S E l→cE W→Ul S X=some (f,a)→Ze X→bJ n X l≠.out→Calls Tryz.prog f a w (eC (VN w.heap.size) W w S E (bJ n X l))
end bu
end Go.Proofs.YtpcihajmcejliacGreatDoor
namespace Go.Proofs.YtpcihajmcejliacGreatDoor
open Go.RowKit
def NT.weak:NT→Nat
 | .loop _ _=>0
 | .imports _ _=>0
 | .decls _ _=>0
 | .place _=>0
 | _=>1
namespace bF
theorem ag {α β : Type} {o:Out α} {f:α→List Tk→Out β} {x:β} {r:List Tk} (h:o.bind f=.got x r):∃ y l,o=.got y l∧f y l=.got x r:=by
 cases o with
 | out=>cases h
 | bad l=>cases h
 | got y l=>exact⟨y,l,rfl,h⟩
theorem aV {l:List Tk} {ws:List ByteArray} (h:fK l ws=true):l.tail.length<l.length:=by
 cases l with
 | nil=>cases h
 | cons t r=>simp
theorem aZ {s:ByteArray} {l r:List Tk} {u:Unit} (h:dY s l=.got u r):r.length<l.length:=by
 unfold dY at h;split at h
 ·rename_i h1
  injection h with _ h2
  subst h2;exact aV h1
 ·cases h
theorem iq {l r:List Tk} {s:ByteArray} (h:fH l=.got s r):r.length<l.length:=by
 cases l with
 | nil=>cases h
 | cons t q=>
  simp only [fH] at h;split at h
  ·injection h with _ h2
   subst h2;simp
  ·cases h
theorem qE {l r:List Tk} {x:Nd} (h:fD l=.got x r):r.length<l.length:=by
 cases l with
 | nil=>cases h
 | cons t q=>
  simp only [fD] at h;split at h
  ·injection h with _ h2
   subst h2;simp
  ·cases h
theorem gW {l r:List Tk} {s:ByteArray} (h:iL l=.got s r):r.length<l.length:=by
 unfold iL at h;obtain⟨y,q,h1,h2⟩:=ag h;have:=iq h1;split at h2
 ·rename_i hb
  obtain⟨z,q2,h3,h4⟩:=ag h2;have:=iq h3;have:=aV hb;injection h4 with _ h5
  subst h5;omega
 ·injection h2 with _ h5
  subst h5;omega
theorem dQ {l r:List Tk} {b:Int} (h:dG l=.got b r):r.length<l.length:=by
 unfold dG at h;split at h
 ·rename_i hb
  injection h with _ h5
  subst h5;exact aV hb
 ·obtain⟨z,q2,h3,h4⟩:=ag h
  have:=aZ h3;injection h4 with _ h5
  subst h5;omega
theorem nC {l r:List Tk} {x y:Nd} (h:kN x l=.got y r):r.length<l.length:=by
 unfold kN at h;obtain⟨z,q2,h3,h4⟩:=ag h;have:=aZ h3;injection h4 with _ h5
 subst h5;omega
theorem iw {x y:Nd} {l r:List Tk} (h:Out.got x l=Out.got y r):r.length=l.length:=by injection h with _ h;rw [h]
theorem Gl {l:List Tk} (h:kindOf l=3):l.tail.length<l.length:=by
 cases l with
 | nil=>simp [kindOf] at h
 | cons t r=>simp
theorem dO:∀ (n:Nat) (X:NT) (l:List Tk) (x:Nd) (r:List Tk),bJ n X l=.got x r→r.length+X.weak≤l.length:=by
 intro n;induction n with
 | zero=>intro X l x r h;cases X<;>cases h
 | succ n ih=>
  intro X l x r h;cases X with
  | expr=>
   simp only [bJ] at h;have:=ih _ _ _ _ h;exact this
  | bound k=>
   simp only [bJ] at h;split at h
   ·have:=ih _ _ _ _ h
    exact this
   ·obtain⟨y,q,h1,h2⟩:=ag h
    have a:=ih _ _ _ _ h1;have b:=ih _ _ _ _ h2;simp only [NT.weak] at a b ⊢;omega
  | loop k z=>
   simp only [bJ] at h;split at h
   ·rename_i hk
    have:=Gl hk.1;obtain⟨y,q,h1,h2⟩:=ag h;have a:=ih _ _ _ _ h1;split at h2
    ·have b:=iw h2
     simp only [NT.weak] at a ⊢;omega
    ·have b:=ih _ _ _ _ h2
     simp only [NT.weak] at a b ⊢;omega
   ·have b:=iw h
    simp only [NT.weak];omega
  | unary=>
   simp only [bJ] at h;simp only [NT.weak];split at h
   ·rename_i hb
    have:=aV hb;obtain⟨y,q,h1,h2⟩:=ag h;have a:=ih _ _ _ _ h1;have b:=iw h2;simp only [NT.weak] at a;omega
   ·split at h
    ·rename_i hb
     have:=aV hb;obtain⟨y,q,h1,h2⟩:=ag h;have a:=ih _ _ _ _ h1;have b:=iw h2;simp only [NT.weak] at a;omega
    ·split at h
     ·have a:=ih _ _ _ _ h
      exact a
     ·split at h
      ·have:=qE h;omega
      ·obtain⟨y,q,h1,h2⟩:=ag h
       have:=gW h1;split at h2
       ·have b:=ih _ _ _ _ h2
        simp only [NT.weak] at b;omega
       ·have b:=ih _ _ _ _ h2
        simp only [NT.weak] at b;omega
  | asked=>
   simp only [bJ] at h;simp only [NT.weak];obtain⟨y,q,h1,h2⟩:=ag h;have:=aZ h1;obtain⟨y2,q2,h3,h4⟩:=ag h2;have a:=ih _ _ _ _ h3;obtain⟨y3,q3,h5,h6⟩:=ag h4;have:=aZ h5;have:=iw h6;omega
  | place s=>
   simp only [bJ] at h;simp only [NT.weak];split at h
   ·rename_i hb
    have:=aV hb;obtain⟨y2,q2,h3,h4⟩:=ag h;have a:=ih _ _ _ _ h3;obtain⟨y3,q3,h5,h6⟩:=ag h4;have:=aZ h5;have:=iw h6;omega
   ·have:=iw h
    omega
  | call s=>
   simp only [bJ] at h;simp only [NT.weak];obtain⟨y,q,h1,h2⟩:=ag h;have:=aZ h1;have a:=ih _ _ _ _ h2;omega
  | args s acc=>
   simp only [bJ] at h;simp only [NT.weak];split at h
   ·obtain⟨y3,q3,h5,h6⟩:=ag h
    have:=aZ h5;have:=iw h6;omega
   ·obtain⟨y,q,h1,h2⟩:=ag h
    have a:=ih _ _ _ _ h1;split at h2
    ·rename_i hb
     have:=aV hb;have b:=ih _ _ _ _ h2;simp only [NT.weak] at a b;omega
    ·obtain⟨y3,q3,h5,h6⟩:=ag h2
     have:=aZ h5;have:=iw h6;simp only [NT.weak] at a;omega
  | block=>
   simp only [bJ] at h;simp only [NT.weak];obtain⟨y,q,h1,h2⟩:=ag h;have:=aZ h1;have a:=ih _ _ _ _ h2;omega
  | stats acc=>
   simp only [bJ] at h;simp only [NT.weak];split at h
   ·rename_i hb
    have:=aV hb;have:=iw h;omega
   ·obtain⟨y,q,h1,h2⟩:=ag h
    have a:=ih _ _ _ _ h1;have b:=ih _ _ _ _ h2;simp only [NT.weak] at a b;omega
  | stat=>
   simp only [bJ] at h;simp only [NT.weak];split at h
   ·obtain⟨y1,q1,h1,h2⟩:=ag h
    have:=dQ h1;obtain⟨y3,q3,h3,h4⟩:=ag h2;have:=iq h3;obtain⟨y5,q5,h5,h6⟩:=ag h4;have:=aZ h5;obtain⟨y7,q7,h7,h8⟩:=ag h6;have a:=ih _ _ _ _ h7;have:=nC h8;omega
   split at h
   ·rename_i hb
    have:=aV hb;obtain⟨y1,q1,h1,h2⟩:=ag h;have:=gW h1;obtain⟨y7,q7,h7,h8⟩:=ag h2;have a:=ih _ _ _ _ h7;have:=nC h8;omega
   split at h
   ·rename_i hb
    have:=aV hb;obtain⟨y1,q1,h1,h2⟩:=ag h;have a:=ih _ _ _ _ h1;obtain⟨y3,q3,h3,h4⟩:=ag h2;have b:=ih _ _ _ _ h3;split at h4
    ·rename_i hb
     have:=aV hb;obtain⟨y5,q5,h5,h6⟩:=ag h4;have c:=ih _ _ _ _ h5;have:=iw h6;omega
    ·have:=iw h4
     omega
   split at h
   ·rename_i hb
    have:=aV hb;obtain⟨y1,q1,h1,h2⟩:=ag h;have a:=ih _ _ _ _ h1;obtain⟨y3,q3,h3,h4⟩:=ag h2;have b:=ih _ _ _ _ h3;have:=iw h4;omega
   split at h
   ·rename_i hb
    have:=aV hb;obtain⟨y1,q1,h1,h2⟩:=ag h;have:=dQ h1;obtain⟨y7,q7,h7,h8⟩:=ag h2;have a:=ih _ _ _ _ h7;have:=nC h8;omega
   split at h
   ·rename_i hb
    have:=aV hb;obtain⟨y1,q1,h1,h2⟩:=ag h;have:=dQ h1;obtain⟨y3,q3,h3,h4⟩:=ag h2;have:=gW h3;obtain⟨y7,q7,h7,h8⟩:=ag h4;have a:=ih _ _ _ _ h7;have:=nC h8;omega
   split at h
   ·rename_i hb
    have:=aV hb;obtain⟨y7,q7,h7,h8⟩:=ag h;have a:=ih _ _ _ _ h7;have:=nC h8;omega
   ·obtain⟨y1,q1,h1,h2⟩:=ag h
    have:=gW h1;obtain⟨y3,q3,h3,h4⟩:=ag h2;have a:=ih _ _ _ _ h3;obtain⟨y5,q5,h5,h6⟩:=ag h4;have:=aZ h5;obtain⟨y7,q7,h7,h8⟩:=ag h6;have b:=ih _ _ _ _ h7;have:=nC h8;omega
  | decl=>
   simp only [bJ] at h;simp only [NT.weak]
   obtain⟨l2,hl2,hle⟩:∃ l2,(if fK l [sN]=true then l.tail else l)=l2∧l2.length≤l.length:=by
    refine⟨_,rfl,?_⟩
    split
    ·rename_i hb;have:=aV hb;omega
    ·exact Nat.le_refl _
   rw [hl2] at h;split at h
   ·rename_i hb
    have:=aV hb;have a:=ih _ _ _ _ h;simp only [NT.weak] at a;omega
   ·obtain⟨y1,q1,h1,h2⟩:=ag h
    have:=dQ h1;obtain⟨y3,q3,h3,h4⟩:=ag h2;have:=iq h3;split at h4
    ·rename_i hb
     have:=aV hb;obtain⟨y5,q5,h5,h6⟩:=ag h4;have:=qE h5;obtain⟨y7,q7,h7,h8⟩:=ag h6;have:=aZ h7;have:=nC h8;omega
    ·have:=nC h4
     omega
  | proc dR=>
   simp only [bJ] at h;simp only [NT.weak];obtain⟨y1,q1,h1,h2⟩:=ag h;have:=iq h1;obtain⟨y3,q3,h3,h4⟩:=ag h2;have:=aZ h3;have a:=ih _ _ _ _ h4;omega
  | params s dR acc=>
   simp only [NT.weak]
   have done:∀ (acc:List Nd) (l:List Tk),((dY dN l).bind fun _ l=>(dG l).bind fun b l=>
     if fK l [oZ]=true then (dG l.tail).bind fun g l=>(bJ n .block l).bind fun x l=>.got (.mk 4 s (dR+b+(4+4*g)) (acc ++ [x])) l
     else (bJ n .block l).bind fun x l=>.got (.mk 4 s (dR+b) (acc ++ [x])) l)=.got x r→r.length+1≤l.length:=by
    intro acc l h;obtain⟨y1,q1,h1,h2⟩:=ag h;have:=aZ h1;obtain⟨y3,q3,h3,h4⟩:=ag h2;have:=dQ h3;split at h4
    ·rename_i hb
     have:=aV hb;obtain⟨y5,q5,h5,h6⟩:=ag h4;have:=dQ h5;obtain⟨y7,q7,h7,h8⟩:=ag h6;have a:=ih _ _ _ _ h7;have:=iw h8;omega
    ·obtain⟨y7,q7,h7,h8⟩:=ag h4
     have a:=ih _ _ _ _ h7;have:=iw h8;omega
   simp only [bJ] at h;split at h
   ·exact done _ _ h
   ·obtain⟨y1,q1,h1,h2⟩:=ag h
    have:=dQ h1;obtain⟨y3,q3,h3,h4⟩:=ag h2;have:=iq h3;split at h4
    ·rename_i hb
     have:=aV hb;have a:=ih _ _ _ _ h4;simp only [NT.weak] at a;omega
    ·have:=done _ _ h4
     omega
  | module=>
   simp only [bJ] at h;simp only [NT.weak];obtain⟨y1,q1,h1,h2⟩:=ag h;have:=aZ h1;obtain⟨y3,q3,h3,h4⟩:=ag h2;have:=iq h3;obtain⟨y5,q5,h5,h6⟩:=ag h4;have:=aZ h5;have a:=ih _ _ _ _ h6;simp only [NT.weak] at a;omega
  | imports s acc=>
   simp only [bJ] at h;simp only [NT.weak];split at h
   ·rename_i hb
    have:=aV hb;obtain⟨y3,q3,h3,h4⟩:=ag h;have:=iq h3;obtain⟨y5,q5,h5,h6⟩:=ag h4;have:=aZ h5;have a:=ih _ _ _ _ h6;simp only [NT.weak] at a;omega
   ·have a:=ih _ _ _ _ h
    simp only [NT.weak] at a;omega
  | decls s acc=>
   simp only [bJ] at h;simp only [NT.weak];split at h
   ·have:=iw h;omega
   ·obtain⟨y1,q1,h1,h2⟩:=ag h
    have a:=ih _ _ _ _ h1;have b:=ih _ _ _ _ h2;simp only [NT.weak] at a b;omega
end bF
end Go.Proofs.YtpcihajmcejliacGreatDoor
