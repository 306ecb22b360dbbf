/- For every text, every faces and every face more the law CheckMore returns true. No condition beyond the row's own. -/
import Derived.Test.YtpcihajmcejliacGreatDoorCards
import Derived.Test.YtpcihajmcejliacGreatDoorTie
import Derived.SizedLaws
import Derived.WalkKit
import Derived.ProofKit
import Derived.OpenShut
import Derived.Lay
import Derived.MakeChecks
import Derived.SevenTiedAt
import Derived.Stop.LaidErr
import Derived.Carry
import Derived.Lib.LaidTab
import Derived.Test.YtpcihajmcejliacGreatDoorFcsRowm
import Derived.Test.YtpcihajmcejliacGreatDoorCMfFactsm
import Derived.Test.YtpcihajmcejliacGreatDoorCMfGoesm
import Derived.Test.YtpcihajmcejliacGreatDoorCMfMainsm
namespace Go.Proofs.YtpcihajmcejliacGreatDoor.checkMore
open Go.ChangeShapes Go.WideShapes Go.ChangeAt Go.RowKit Go.ChangeMaps
theorem own:ownKnob Tryz.prog.godebug=none:=by kernel_rfl
theorem gERType:(Tryz.prog.globals[6]?).map (·.type)=some 208:=by kernel_rfl
theorem cellsE:Tryz.prog.cellsOf 450=1:=by kernel_rfl
theorem cellsS:Tryz.prog.cellsOf 9=1:=by kernel_rfl
theorem star: "*" ++ "errors.errorString" = "*errors.errorString":=by decide
theorem X_ (u:TypeId) (h:Tryz.prog.typeName? 3 u=some "*errors.errorString"):u=448:=
 typeName_ptr_named (nm:= "errors.errorString") (by rw [star];kernel_rfl) (by kernel_rfl) (by decide) u (by rw [star];exact h)
theorem uK {W:World} (h:laidMetH Tryz.prog Rows.checkMoreRow.laid W):ErrVar W:=by
 rw [MakeChecks.laidMetH_plain _ _ _ (by kernel_rfl)] at h;obtain⟨a1,s1,hv1,-,-,-⟩:=laid_sentinel h.tail.tail.tail.tail ErrVar.named gERType Tryz.underlying208 X_ Tryz.underlying448 Tryz.underlying450 rfl rfl Tryz.underlying9 cellsE cellsS;exact⟨_,_,hv1⟩
theorem laidOut:laidOutB Tryz.prog=true:=by kernel_rfl
theorem tZ {W:World} (h:W.ShapedOpen Tryz.prog):dw W:=
 cell_of_shapedOpen_int (P:=Tryz.prog) (g:=1) (t:=3) (zero:=#[.int .i64 0]) h (of_decide_eq_true (by kernel_rfl)) (by kernel_rfl) rfl (by kernel_rfl) (by kernel_rfl) Tryz.underlying3
theorem handed {H:Type} {enc:TypeId×Value→H} {a:Assume} {C:Checked} {os:Os} {f:FuncId} {fn:Func} {s:ChangeSpec} {conds:List PathCond} {apart fresh handsOn again:Bool} {X:World→Array Value→Prop}
  (hX:∀ (w w':World) (args:Array Value),w.heap=w'.heap→X w args→X w' args)
  (own:ownKnob C.prog.godebug=none) (started:os.Started) (noInit:C.prog.inits.idxOf? f=none) (hfn:C.prog.funcs[f]? = some fn)
  (witness:∃ (w:World) (tape:Tape) (i:Input),w.os=os∧(w.forCall tape i).Shaped C.prog∧i.vars=[]∧Input.okWide C.prog (w.forCall tape i) .any w.heap.size f i∧
   ((s.pre enc C.prog fn conds apart (w.forCall tape i).memory i.args∧X (w.forCall tape i).memory i.args)∧sizedMet enc C.prog fn (OpenSpec.ofChange s) apart (w.forCall tape i).memory i.args)∧a.holds C.prog (lone (Frame.enter C.prog f i.args .normal) [] (w.forCall tape i)))
  (contract:∀ (W:World) (base:Nat) (args:Array Value) (ds gs:List (DataW H)) (before:List MemPlace),
   (∀ (j:Nat) t v,fn.params[j]? = some t→args[j]? = some v→Value.okWide C.prog W .any base t v)→
   DataW.Whole enc C.prog fn.params.toList s.vars apart W args.toList ds gs before→
   (DataW.weightsEach C.prog (fn.params.toList++s.plain.varTypes C.prog) (ds++gs)).all (·≤reachBytes)=true→X W args→W.ShapedOpen C.prog→
   Calls C.prog f args W fun e W'=>∃ v,e=.returned v∧s.post enc C.prog fn apart fresh handsOn again W args v W') :
  ReturnsInHanded a C os f .any (fun w args=>(s.pre enc C.prog fn conds apart w args∧X w args)∧sizedMet enc C.prog fn (OpenSpec.ofChange s) apart w args) (s.post enc C.prog fn apart fresh handsOn again):=by
 refine returnsInHanded_of_calls own started noInit witness ?_
 intro w tape i _ hsh _ hok hpre _;obtain⟨_,_,_,fn',hfn',_,_,_,_,hval⟩:=hok;have e:fn'=fn:=Option.some.inj (hfn'.symm.trans hfn);subst e;obtain⟨⟨⟨ds,gs,before,hw,_⟩,hx⟩,hz⟩:=hpre;have hw':=DataW.Whole.of_heap (w':=w.forCall tape i) (by rfl) hw;refine(contract (w.forCall tape i) w.heap.size i.args ds gs before hval hw' (hz.weights hw) (hX _ _ _ (by rfl) hx) hsh).mono fun e W' ⟨v,he,hp⟩=>?_
 subst he;exact ChangeSpec.post_blind hp
theorem weigh {H:Type} {P:Program} {ts:List TypeId} {ds:List (DataW H)} (h:(DataW.weightsEach P ts ds).all (·≤reachBytes)=true) {j:Nat} {t:TypeId} {d:DataW H} (ht:ts[j]? = some t) (hd:ds[j]? = some d):(d.weights P t).all (·≤reachBytes)=true:=by
 rw [List.all_eq_true] at h ⊢;exact fun n hn=>h n (DataW.weights_mem_each ht hd n hn)
set_option maxRecDepth 100000 in
theorem lifted (os:Os) (started:os.Started) (H:Type) (enc:TypeId×Value→H) :
  ReturnsInHanded {} Tryz.checked os 4 .any (fun w args=>(Rows.checkMoreSpec.pre enc Tryz.prog Tryz.f4 [] false w args∧laidMetH Tryz.prog Rows.checkMoreRow.laid w)∧sizedMet enc Tryz.prog Tryz.f4 (OpenSpec.ofChange Rows.checkMoreSpec) false w args)
   (Rows.checkMoreSpec.post enc Tryz.prog Tryz.f4 false true false false):=by
 refine handed (C:=Tryz.checked) (X:=fun w _=>laidMetH Tryz.prog Rows.checkMoreRow.laid w) (fun _ _ _ hh h=>h.of_heap hh) own started (by kernel_rfl) Tryz.func4
  (ChangeSpec.witness_shaped (enc:=enc) (C:=Tryz.checked) (os:=os) (X:=fun w _=>laidMetH Tryz.prog Rows.checkMoreRow.laid w) false (World.laidAll Tryz.prog os Rows.checkMoreRow.laid) #[.string ⟨#[]⟩,.slice none 0 0,.agg #[.string ⟨#[]⟩,.slice none 0 0,.slice none 0 0]] 8 (World.laidAll_os _ _ _)
   (World.shaped_of_ZipB (by kernel_rfl) (by kernel_rfl)) (by kernel_rfl) (by kernel_rfl) (by kernel_rfl)
   (by rw [MakeChecks.laidMetH_plain _ _ _ (by kernel_rfl)];exact laidMet_laidAll _ (by kernel_rfl) (by kernel_rfl))) ?_
 intro W base args ds gs before hval0 hW hwt hL hsh;have hval:∀ (j:Nat) t v,Tryz.f4.params[j]? = some t→args[j]? = some v→Value.okWide Tryz.prog W .any base t v:=hval0;have hW':=hW;obtain⟨p,q,hA0,hV,rfl,hfz,hnd⟩:=hW;have hA:DataW.TrodAll enc Tryz.prog W 0 (fun _=>true) true Tryz.f4.params.toList args.toList ds p:=hA0;rw [Tryz.params4] at hA hval;obtain⟨v0,vs0,d0,ds0,p0,q0,hargs,rfl,rfl,h0,r0⟩:=trodAll_cons hA;obtain⟨v1,vs1,d1,ds1,p1,q1,rfl,rfl,rfl,h1,r1⟩:=trodAll_cons r0;obtain⟨v2,vs2,d2,ds2,p2,q2,rfl,rfl,rfl,h2,r2⟩:=trodAll_cons r1;obtain⟨rfl,rfl,rfl⟩:=trodAll_nil r2;obtain rfl:args=#[v0,v1,v2]:=by cases args;simp_all
 obtain⟨rfl,rfl⟩:=trodVars_none hV;have hw1:=weigh hwt (j:=1) (t:=33) (d:=d1) (by kernel_rfl) rfl;obtain⟨s,rfl,rfl,rfl,ws⟩:=open_string Tryz.underlying9 (hval 0 9 v0 rfl rfl) h0;have hw2:=weigh hwt (j:=2) (t:=37) (d:=d2) (by kernel_rfl) rfl;obtain⟨x,hfx,hfb⟩:=facesRow.open_arg (hval 2 37 v2 rfl rfl) h2 hw2;obtain⟨fuel1,h1'⟩:=id h1;obtain⟨ba,bl,bc,rfl⟩:=okWide_slice Tryz.underlying33 (hval 1 33 v1 rfl rfl);replace h1':DataW.trod enc Tryz.prog W 0 (fun _=>true) true fuel1 33 [.slice ba bl bc]=some (d1,p1):=h1';obtain⟨a1,l,cap,hev,hx,hcap,hcm,hsum,SD⟩:=facesRow.zQ h1' hw1;obtain⟨e1,e2,e3⟩:=Value.slice.inj hev;subst e1 e2 e3;clear hev hA0 hval0;have hlt:=hW'.lt;simp only [List.append_nil] at hW' hlt;refine(checkMore.walk s _ l _ _ x _ W rfl (by unfold maxLen at ws;omega) (uK hL) (tZ hsh) hx hcap hcm hsum hfx hfb SD).mono fun e W' ⟨he,hg⟩=>?_
 subst he
 exact⟨_,rfl,_,_,_,[],_,[],hW',trodAll_mk1 (shut_bool Tryz.underlying4 _),
  trodAll_mk3 (shut_string Tryz.underlying9 ws) (Below.trod laidOut (by kernel_rfl) (of_decide_eq_true (by kernel_rfl)) h1 (Ext.below hg) (fun z hz=>hlt z (by simp [hz]))) (Below.trod laidOut (by kernel_rfl) (of_decide_eq_true (by kernel_rfl)) h2 (Ext.below hg) (fun z hz=>hlt z (by simp [hz]))),rfl,(Ext.below hg).frame _,fun h=>by cases h⟩
theorem yz:Tryz.pinned.checked.prog=Tryz.prog:=by kernel_rfl
theorem KA:Tryz.pinned.checked.prog.funcs[4]? = some Tryz.f4:=by rw [yz];exact Tryz.func4
set_option maxRecDepth 100000 in
set_option maxHeartbeats 4000000 in
theorem over:Rows.CheckMoreSaid:=
 OpenClaim.holds_of_wide 4 Tryz.f4 rfl rfl rfl rfl rfl rfl rfl ⟨rfl,rfl,rfl,rfl,rfl⟩ rfl rfl rfl rfl rfl named KA joined inst wrapper
  (fun os started H enc _=>lifted os started H enc)
theorem plain (f:FuncId) (fn:Func) (hf:Tryz.pinned.checked.prog.funcNamed "dryshod/dryshodkeep.CheckMore" = some f) (hfn:Tryz.pinned.checked.prog.funcs[f]? = some fn) :
  true=Tryz.pinned.checked.prog.looks []∧∀ (j:Nat) t,fn.params[j]? = some t→Tryz.pinned.checked.prog.wantsStandIn t=false:=by
 obtain rfl:f=4:=Option.some.inj ((show Tryz.prog.funcNamed "dryshod/dryshodkeep.CheckMore" = some 4 by kernel_rfl).symm.trans hf) |>.symm
 obtain rfl:fn=Tryz.f4:=(Option.some.inj (Tryz.func4.symm.trans hfn)).symm;refine⟨by kernel_rfl,fun j t ht=>?_⟩
 rw [Tryz.params4] at ht;have ht2:t=9∨t=33∨t=37:=by simpa using Array.mem_of_getElem? ht
 rcases ht2 with rfl|rfl|rfl
 ·exact(show Tryz.prog.wantsStandIn 9=false by kernel_rfl)
 ·exact(show Tryz.prog.wantsStandIn 33=false by kernel_rfl)
 ·exact(show Tryz.prog.wantsStandIn 37=false by kernel_rfl)
theorem card:Rows.CheckMoreCardSaid:=
 Claim7.holds_tied_plain_at .later [] _ _ _ _ over (fun _ h=>by cases h) (by kernel_rfl) (fun _ h=>by cases h) checkMore_row_tie rfl ⟨rfl,rfl⟩ (by rw [yz];exact SE) rfl plain (by rw [yz];exact goes)
end Go.Proofs.YtpcihajmcejliacGreatDoor.checkMore
