/- Rows of faces. -/
import Derived.Test.YtpcihajmcejliacGreatDoorShelf
import Derived.Deep.Slices
import Derived.ChangeArms
import Derived.ChangeShapes
import Derived.WideShapes
import Derived.DataReads
import Derived.SizedLaws
import Derived.Shelf.Vars
import Derived.Test.YtpcihajmcejliacGreatDoorLexNum
namespace Go.Proofs.YtpcihajmcejliacGreatDoor.facesRow
open Go.ChangeShapes Go.WideShapes Go.Deep Go.RowKit Go.Proofs.YtpcihajmcejliacGreatDoor
variable {H:Type} {enc:TypeId×Value→H} {w:World} {base:Nat} {spare:Nat→Bool} {held:Bool}
theorem cI:Tryz.prog.cellsOf 3=1:=by kernel_rfl
theorem cV:Tryz.prog.cellsOf 70=4:=by kernel_rfl
theorem cP:Tryz.prog.cellsOf 68=6:=by kernel_rfl
theorem cF:Tryz.prog.cellsOf 37=3:=by kernel_rfl
theorem bV:Tryz.prog.bytesOf 70=40:=by kernel_rfl
theorem bP:Tryz.prog.bytesOf 68=72:=by kernel_rfl
theorem vV {α : Type} [Inhabited α] {In:World→Nat→Nat→α→Prop} {N:DataW H→α→Prop} {t e:TypeId} {k fuel:Nat} {u:Value} {x:DataW H×List MemPlace} (hk:0<k) (ht:Tryz.prog.underlying t=some (.slice e)) (hc:Tryz.prog.cellsOf e=k)
  (h:DataW.trod enc Tryz.prog w base spare held fuel t [u]=some x)
  (each:∀ (n:Nat) (cs:List Value) (y:DataW H×List MemPlace),DataW.trod enc Tryz.prog w base spare held n e cs=some y→∃ z:α,(∀ b o,b<w.heap.size→(∀ j,j<k→w.cell? ⟨b,o+j,none⟩=cs[j]?)→In w b o z)∧N y.1 z) :
  ∃ a l cap,u=.slice a l.length cap∧fN k In w a l∧l.length≤cap∧cap≤maxLen∧(l=[]∨∃ E S,x.1=.slice E S∧E.length=l.length∧∀ z∈l,∃ d∈E,N d z):=by
 rcases open_slice ht h with ⟨h0,rfl⟩|⟨a,len,cap,m,n,D,Pl,h0,hb,hl,hm,hmm,rfl,hx⟩
 ·cases h0
  exact⟨none,[],0,rfl,fun j hj=>absurd hj (Nat.not_lt_zero _),Nat.zero_le _,Nat.zero_le _,.inl rfl⟩
 ·cases h0
  have hlm:len≤m:=by rw [hmm];split<;>omega
  rw [hc] at hx
  have hZ:∀ i,i<m→∃ z:α,(∀ b o,a=⟨b,o,none⟩→b<w.heap.size→In w b (o+i*k) z)∧N (D i) z:=by
   intro i hi;obtain⟨cs',h1,h2⟩:=hx i hi;obtain⟨z,hz,hz2⟩:=each n cs' _ h2;refine⟨z,fun b o e hb=>hz b _ hb fun j hj=>?_,hz2⟩
   subst e;obtain⟨_,_,h3⟩:=World.cells?_some h1;have:=h3 j hj;rw [add_add] at this;rw [←this];unfold Addr.add;split
   ·rename_i h0
    rw [show o+i*k+j=o by omega]
   ·simp [Nat.add_assoc]
  obtain⟨Z,hZ⟩:=choose_lt hZ;refine⟨some a,(List.range len).map Z,cap,by simp,fun j hj=>?_,by simpa using hl,hm,.inr ⟨_,_,rfl,by simp,fun z hz=>?_⟩⟩
  rotate_left
  ·obtain⟨i,hi,rfl⟩:=List.mem_map.1 hz
   have hi2:=List.mem_range.1 hi;exact⟨D i,List.mem_map.2 ⟨i,by simpa using hi2,rfl⟩,(hZ i (by omega)).2⟩
  have hj':j<len:=by simpa using hj
  obtain⟨b,off,spot⟩:=a;obtain⟨cs',h1,_⟩:=hx 0 (by omega);obtain⟨_,hlen,h3⟩:=World.cells?_some h1;have h4:=h3 0 hk;simp [Addr.add] at h4
  rw [List.getElem?_eq_getElem (by omega)] at h4;have hs:=World.cell?_spot h4;simp only at hs;subst hs;have hblt:=World.block_lt_of_cell? w _ h4;refine⟨b,off,rfl,hblt,?_⟩
  simpa using (hZ j (by omega)).1 b off rfl hblt
theorem weaken {α : Type} {k:Nat} {In:World→Nat→Nat→α→Prop} {N:DataW H→α→Prop} {u:Value} {x:DataW H×List MemPlace} (h:∃ a l cap,u=.slice a l.length cap∧fN k In w a l∧l.length≤cap∧cap≤maxLen∧(l=[]∨∃ E S,x.1=.slice E S∧E.length=l.length∧∀ z∈l,∃ d∈E,N d z)) :
  ∃ a l cap,u=.slice a l.length cap∧fN k In w a l∧l.length≤cap∧cap≤maxLen∧(l=[]∨∃ E S,x.1=.slice E S∧E.length=l.length):=by
 obtain⟨a,l,cap,h1,h2,h3,h4,h5⟩:=h;exact⟨a,l,cap,h1,h2,h3,h4,h5.imp id fun⟨E,S,h6,h7,_⟩=>⟨E,S,h6,h7⟩⟩
set_option maxRecDepth 100000 in
theorem Hr {fuel:Nat} {u:Value} {x:DataW H×List MemPlace} (h:DataW.trod enc Tryz.prog w base spare held fuel 46 [u]=some x) :
  ∃ a l cap,u=.slice a l.length cap∧fN 1 jc w a l∧l.length≤cap∧cap≤maxLen:=by
 obtain⟨a,l,cap,h1,h2,h3,h4,_⟩:=vV (In:=jc) (N:=fun _ _=>True) (k:=1) (by decide) Tryz.underlying46 cI h fun n cs y hy=>by
  obtain⟨z,rfl,_⟩:=DataW.trod_int Tryz.underlying3 hy;exact⟨z,fun b o _ hc=>hc 0 (by decide),trivial⟩
 exact⟨a,l,cap,h1,h2,h3,h4⟩
set_option maxRecDepth 100000 in
theorem Ht {fuel:Nat} {u:Value} {x:DataW H×List MemPlace} (h:DataW.trod enc Tryz.prog w base spare held fuel 34 [u]=some x) :
  ∃ a l cap,u=.slice a l.length cap∧fN 4 og w a l∧l.length≤cap∧cap≤maxLen∧(l=[]∨∃ E S,x.1=.slice E S∧E.length=l.length):=
 weaken (vV (In:=og) (N:=fun _ _=>True) (k:=4) (by decide) Tryz.underlying34 cV h fun n cs y hy=>by
  obtain⟨xs,n',_,_,hl,hlen,hf⟩:=DataW.trod_struct Tryz.underlying70 hy;rw [cV] at hl;replace hlen:xs.length=4:=hlen;match cs,hl,xs,hlen with
  | [v0,v1,v2,v3],_,[y0,y1,y2,y3],_=>
   have g0:=hf 0 _ rfl;have g1:=hf 1 _ rfl;have g2:=hf 2 _ rfl;have g3:=hf 3 _ rfl;simp only [List.getElem?_cons_zero,List.getElem?_cons_succ] at g0 g1 g2 g3;obtain⟨s,e0,_,hs⟩:=DataW.trod_string Tryz.underlying9 g0;obtain⟨b1,e1,_⟩:=DataW.trod_bool Tryz.underlying4 g1;obtain⟨i2,e2,_⟩:=DataW.trod_int Tryz.underlying3 g2;obtain⟨i3,e3,_⟩:=DataW.trod_int Tryz.underlying3 g3;cases e0;cases e1;cases e2;cases e3
   exact⟨⟨s,b1,i2,i3⟩,fun b o _ hc=>⟨hc 0 (by decide),hc 1 (by decide),hc 2 (by decide),hc 3 (by decide),hs⟩,trivial⟩)
set_option maxRecDepth 100000 in
theorem Fe {fuel:Nat} {u:Value} {x:DataW H×List MemPlace} (h:DataW.trod enc Tryz.prog w base spare held fuel 35 [u]=some x) :
  ∃ a l cap,u=.slice a l.length cap∧fN 6 jJ w a l∧l.length≤cap∧cap≤maxLen∧(l=[]∨∃ E S,x.1=.slice E S∧E.length=l.length):=
 weaken (vV (In:=jJ) (N:=fun _ _=>True) (k:=6) (by decide) Tryz.underlying35 cP h fun n cs y hy=>by
  obtain⟨xs,n',_,_,hl,hlen,hf⟩:=DataW.trod_struct Tryz.underlying68 hy;rw [cP] at hl;replace hlen:xs.length=6:=hlen;match cs,hl,xs,hlen with
  | [v0,v1,v2,v3,v4,v5],_,[y0,y1,y2,y3,y4,y5],_=>
   have g0:=hf 0 _ rfl;have g1:=hf 1 _ rfl;have g2:=hf 2 _ rfl;have g3:=hf 3 _ rfl;have g4:=hf 4 _ rfl;have g5:=hf 5 _ rfl;simp only [List.getElem?_cons_zero,List.getElem?_cons_succ] at g0 g1 g2 g3 g4 g5;obtain⟨s,e0,_,hs⟩:=DataW.trod_string Tryz.underlying9 g0;obtain⟨b1,e1,_⟩:=DataW.trod_bool Tryz.underlying4 g1;obtain⟨a2,l2,c2,e2,h2,h3,h4⟩:=Hr g2;obtain⟨i3,e3,_⟩:=DataW.trod_int Tryz.underlying3 g3;obtain⟨b4,e4,_⟩:=DataW.trod_bool Tryz.underlying4 g4;obtain⟨i5,e5,_⟩:=DataW.trod_int Tryz.underlying3 g5;cases e0;cases e1;subst e2;cases e3;cases e4;cases e5
   exact⟨⟨s,b1,l2,i3,b4,i5⟩,fun b o _ hc=>⟨hc 0 (by decide),hc 1 (by decide),⟨a2,c2,hc 2 (by decide),h2,h3,h4⟩,hc 3 (by decide),hc 4 (by decide),hc 5 (by decide),hs⟩,trivial⟩)
set_option maxRecDepth 100000 in
theorem OE {cs:List Value} {y:DataW H×List MemPlace} {n:Nat} (hy:DataW.trod enc Tryz.prog w base spare held n 37 cs=some y) :
  ∃ (x:bf) (a:Option Addr) (m:Nat) (c:Option Addr) (d:Nat),cs=[.string x.modn,.slice a x.vars.length m,.slice c x.procs.length d]∧kL w x (.agg #[.string x.modn,.slice a x.vars.length m,.slice c x.procs.length d])∧((y.1.weights Tryz.prog 37).all (·≤reachBytes)=true→x.vars.length+x.procs.length<maxLen):=by
 obtain⟨xs,n',_,hx,hl,hlen,hf⟩:=DataW.trod_struct Tryz.underlying37 hy;rw [cF] at hl;replace hlen:xs.length=3:=hlen;match cs,hl,xs,hlen with
 | [v0,v1,v2],_,[y0,y1,y2],_=>
  have g0:=hf 0 _ rfl;have g1:=hf 1 _ rfl;have g2:=hf 2 _ rfl;simp only [List.getElem?_cons_zero,List.getElem?_cons_succ] at g0 g1 g2;obtain⟨s,e0,_,hs⟩:=DataW.trod_string Tryz.underlying9 g0;obtain⟨a1,l1,c1,rfl,h1,h1c,h1m,w1⟩:=Ht g1;obtain⟨a2,l2,c2,rfl,h2,h2c,h2m,w2⟩:=Fe g2;cases e0
  refine⟨⟨s,l1,l2⟩,a1,c1,a2,c2,rfl,⟨a1,c1,a2,c2,rfl,h1,h2,hs,h1c,h1m,h2c,h2m⟩,fun hw=>?_⟩
  obtain⟨d,p9⟩:=y;have hd:d=.agg [y0.1,y1.1,y2.1]:=by have:=congrArg Prod.fst hx;simpa using this
  subst hd;rw [List.all_eq_true] at hw
  have k1:l1.length*40≤reachBytes:=by
   rcases w1 with rfl|⟨E,S,e,hE⟩
   ·simp
   ·have:=hw ((E.length+S.length)*Tryz.prog.bytesOf 70) (by simp [DataW.weights,DataW.weightsEach,Tryz.underlying37,Tryz.underlying34,e])
    simp only [bV,decide_eq_true_eq] at this;omega
  have k2:l2.length*72≤reachBytes:=by
   rcases w2 with rfl|⟨E,S,e,hE⟩
   ·simp
   ·have:=hw ((E.length+S.length)*Tryz.prog.bytesOf 68) (by simp [DataW.weights,DataW.weightsEach,Tryz.underlying37,Tryz.underlying35,e])
    simp only [bP,decide_eq_true_eq] at this;omega
  have:=reachBytes_lt;show l1.length+l2.length<maxLen
  unfold maxLen;omega
theorem J8 {P:Program} {e:TypeId}:∀ {E:List (DataW H)} {d:DataW H},d∈E→∀ n∈d.weights P e,n∈DataW.weightsAll P e E:=by
 intro E;induction E with
 | nil=>intro d h;cases h
 | cons x r ih=>
  intro d h n hn;rw [DataW.weightsAll,List.mem_append];rcases List.mem_cons.1 h with rfl|h
  ·exact .inl hn
  ·exact .inr (ih h n hn)
set_option maxRecDepth 100000 in
theorem Jm {fuel:Nat} {u:Value} {x:DataW H×List MemPlace} (h:DataW.trod enc Tryz.prog w base spare held fuel 33 [u]=some x) (hw:(x.1.weights Tryz.prog 33).all (·≤reachBytes)=true) :
  ∃ a l cap,u=.slice a l.length cap∧fN 3 pM w a l∧l.length≤cap∧cap≤maxLen∧∀ f∈l,f.vars.length+f.procs.length<maxLen:=by
 obtain⟨a,l,cap,h1,h2,h3,h4,h5⟩:=vV (In:=pM) (N:=fun d f=>(d.weights Tryz.prog 37).all (·≤reachBytes)=true→f.vars.length+f.procs.length<maxLen) (k:=3) (by decide) Tryz.underlying33 cF h fun n cs y hy=>by
  obtain⟨z,a,m,c,d,rfl,h1,h2⟩:=OE hy;exact⟨z,fun b o _ hc=>⟨a,m,c,d,hc 0 (by decide),hc 1 (by decide),hc 2 (by decide),h1⟩,h2⟩
 refine⟨a,l,cap,h1,h2,h3,h4,fun f hf=>?_⟩
 rcases h5 with rfl|⟨E,S,e,-,h6⟩
 ·cases hf
 ·obtain⟨d,hd,h7⟩:=h6 f hf
  refine h7 ?_
  rw [List.all_eq_true] at hw ⊢;intro n hn;refine hw n ?_
  rw [e];simp only [DataW.weights,Tryz.underlying33,List.mem_cons,List.mem_append];exact .inr (.inl (J8 hd n hn))
end Go.Proofs.YtpcihajmcejliacGreatDoor.facesRow
