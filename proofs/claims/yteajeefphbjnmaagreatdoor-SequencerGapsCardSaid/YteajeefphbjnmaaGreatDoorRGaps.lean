/-
  The sequencer's laws. Part RGaps of the proof: SequencerGaps: the law returns true at every input, and leaves its arguments alone, where the listed variables read as listed: the contract in the row's form.
-/
import Derived.Test.YteajeefphbjnmaaGreatDoorRows
import Derived.JoinedOf
import Derived.Test.YteajeefphbjnmaaGreatDoorEBig
import Derived.Test.YteajeefphbjnmaaGreatDoorEGaps
import Derived.Test.YteajeefphbjnmaaGreatDoorZBI
namespace Go.Proofs.YteajeefphbjnmaaGreatDoor
open Go.ChangeShapes Go.WideShapes Go.ChangeAt Go.RowKit
set_option maxRecDepth 100000 in
theorem Mj {H:Type}{enc:TypeId×Value->H} (W:World) (base:Nat) (args:Array Value) (ds gs:List (DataW H)) (before:List MemPlace)
  (Jn:∀(j:Nat) t v,Tryz.f4.params[j]? =some t->args[j]? =some v->Value.okWide Tryz.prog W .any base t v) (hW:DataW.Whole enc Tryz.prog Tryz.f4.params.toList Rows.sequencerGapsSpec.vars false W args.toList ds gs before)
  (ft:(DataW.weightsEach Tryz.prog (Tryz.f4.params.toList++Rows.sequencerGapsSpec.plain.varTypes Tryz.prog) (ds++gs)).all (·<=reachBytes)=true)
  (hL:laidMetH Tryz.prog Rows.sequencerOnceRow.laid W) (hS:W.ShapedOpen Tryz.prog):
  Calls Tryz.prog 4 args W λe W'=>∃v,e = .returned v/\Rows.sequencerGapsSpec.post enc Tryz.prog Tryz.f4 false true false false W args v W':=by
 have eA:∀(j:Nat) t v,Tryz.f4.params[j]? =some t->args[j]? =some v->Value.okWide Tryz.prog W .any base t v:=Jn;have hW':=hW;obtain ⟨p,q,hA0,hV,rfl,NB,Rl⟩:=hW;have hA:DataW.TrodAll enc Tryz.prog W 0 (λ_=>true) true Tryz.f4.params.toList args.toList ds p:=hA0;rw [Tryz.params4] at hA eA;obtain ⟨v0,v1,v2,d0,d1,d2,q0,q1,q2,rfl,rfl,rfl,h0,h1,h2⟩:=trodAll_three hA;obtain ⟨rfl,rfl⟩:=trodVars_none hV;have bA:∀x∈q0++q1++q2,x.block<W.heap.size:=λx hx=>hW'.lt x (by simpa using hx);have hw0:∀n∈d0.weights Tryz.prog 22,n<=reachBytes:=λn hn=>by
  have:=List.all_eq_true.1 ft n (DataW.weights_mem_each (j:=0) (t:=22) (d:=d0) rfl rfl n hn);simpa using this
 have e1:Rows.sequencerGapsSpec.fn H ([d0,d1,d2]++[]) = {results:=[.lit (.bool true)],args:=[d0,d1,d2]}:=by simp [Rows.sequencerGapsSpec]
 have h0k:=h0;have h1k:=h1;obtain ⟨fuel,hf⟩:=h0;have hc:=one_cell Tryz.underlying22 (eA 0 22 v0 rfl rfl);rw [hc] at hf;obtain ⟨l,D,l1,l2⟩:=K.O9 (N:=top W) (Br W) hf;have Da:=K.ahn hf hw0 D;obtain ⟨cs,rfl⟩:=abD Tryz.underlying40 (eA 1 40 v1 rfl rfl);obtain ⟨amY,hf1⟩:=h1;obtain ⟨x,X,_,_,_⟩:=K.UU (N:=top W) (cs:=cs) (Br W) hf1 0 0 (.nilSlice 0);have h2k:=h2;obtain ⟨axD,Bo⟩:=h2;rw [abE Tryz.underlying3 (eA 2 3 v2 rfl rfl)] at Bo;obtain ⟨ck,e,_,uj⟩:=DataW.trod_int Tryz.underlying3 Bo;cases e;have hw:=K.abI (kind:=x.kind) (from_:=x.from_) (last:=x.last) (top:=x.top) (Q:=λv _=>v = .bool true) K.Xu Dx.Dh (Xv hS hL) D l1 l2 X.Rj X.live X.client X.cookie (K.wf_i64 uj) Da λ_=>rfl;refine (Di (f:=4) (xs:=[v0,.agg ⟨cs⟩,.int .i64 ck]) Tryz.func4 rfl (by kernel_rfl) hL hw (.cons (Dx.xr _ v0) (.cons (abF X) (.cons (.int .i64 ck) .nil)))).mono λe W' ⟨he,hb⟩=>?_;subst he;refine ⟨_,rfl,_,_,_,[],q0++(q1++q2),[],hW',?_,?_,?_,hb.frame _,λh=>by cases h⟩
 ·rw [e1];exact trodAll_mk1 (shut_bool Tryz.underlying4 true)
 ·rw [e1]
  exact trodAll_mk3 (Below.trod laidOut (by kernel_rfl) (of_decide_eq_true (by kernel_rfl)) h0k hb (λx hx=>bA x (by simp [hx])))
   (Below.trod laidOut (by kernel_rfl) (of_decide_eq_true (by kernel_rfl)) h1k hb (λx hx=>bA x (by simp [hx])))
   (Below.trod laidOut (by kernel_rfl) (of_decide_eq_true (by kernel_rfl)) h2k hb (λx hx=>bA x (by simp [hx])))
 ·rw [e1];rfl
end Go.Proofs.YteajeefphbjnmaaGreatDoor
namespace Go.Proofs.YteajeefphbjnmaaGreatDoor
open Go.ChangeShapes Go.WideShapes Go.ChangeAt Go.RowKit
set_option maxRecDepth 100000 in
theorem RO (os:Os)(started:os.Started)(H:Type)(enc:TypeId×Value->H):
  ReturnsInHanded {} Tryz.checked os 4 .any (λw args=>(Rows.sequencerGapsSpec.pre enc Tryz.prog Tryz.f4 [] false w args/\laidMetH Tryz.prog Rows.sequencerGapsRow.laid w)/\sizedMet enc Tryz.prog Tryz.f4 (OpenSpec.ofChange Rows.sequencerGapsSpec) false w args)
   (Rows.sequencerGapsSpec.post enc Tryz.prog Tryz.f4 false true false false):=by
 refine returnsInHanded_of_calls own started (by kernel_rfl)
  (ChangeSpec.witness_shaped (enc:=enc) (C:=Tryz.checked) (os:=os) (X:=λw _=>laidMetH Tryz.prog Rows.sequencerGapsRow.laid w) false (start os) #[.slice none 0 0,.agg #[.int .i64 0,.string ⟨#[]⟩,.int .i64 0,.int .i64 0,.int .i64 0,.int .i64 0,.slice none 0 0],.int .i64 0] 8 (World.layVars_os _ _ _) (World.shaped_of_ZipB (by kernel_rfl) (by kernel_rfl)) (by kernel_rfl) (by kernel_rfl) (by kernel_rfl) (Dj os _)) ?_
 intro w tape i _ hS _ pX UW _;obtain ⟨_,_,_,fn,qW,_,_,_,_,eA⟩:=pX;obtain rfl:fn=Tryz.f4:=Option.some.inj (qW.symm.trans Tryz.func4);obtain ⟨⟨⟨ds,gs,before,hw,_⟩,hx⟩,hz⟩:=UW;have cG:=DataW.Whole.of_heap (w':=w.forCall tape i) (by rfl) hw;refine (Mj (w.forCall tape i) w.heap.size i.args ds gs before eA cG (hz.weights hw) (hx.of_heap (by rfl)) hS).mono λe W' ⟨v,he,hp⟩=>?_;subst he;exact ChangeSpec.post_blind hp
end Go.Proofs.YteajeefphbjnmaaGreatDoor
namespace Go.Proofs.YteajeefphbjnmaaGreatDoor
open Go
theorem Jo:(Rows.sequencerGapsRow.wf (OpenSpec.ofChange Rows.sequencerGapsSpec))=true:=by kernel_rfl
theorem Jp:(laidOutB Tryz.pinned.checked.prog)=true:=by kernel_rfl
theorem Jq:(mapsRowed Tryz.pinned.checked.prog)=true:=by kernel_rfl
theorem Jr:(Tryz.f4.params.all (Tryz.pinned.checked.prog.readableRec ·))=true:=by kernel_rfl
theorem Jt:(namedTie Tryz.pinned.checked.prog Rows.sequencerGapsRow.named Rows.sequencerGapsSpec.vars)=true:=by kernel_rfl
theorem Ju:((Rows.sequencerGapsRow.stops==[]))=true:=by kernel_rfl
theorem Jv:((Tryz.pinned.checked.prog.stops==[]))=true:=by kernel_rfl
theorem Jw:((Rows.sequencerGapsRow.knobs==[]))=true:=by kernel_rfl
theorem Jx:((Tryz.pinned.checked.prog.stopKnobs==[]))=true:=by kernel_rfl
theorem Bt:((Rows.sequencerGapsRow.inPlace==Tryz.pinned.checked.prog.inPlace 4))=true:=by kernel_rfl
theorem Bu:((Rows.sequencerGapsRow.unfollowed==Tryz.pinned.checked.prog.unfollowed 4))=true:=by kernel_rfl
theorem Bv:((Rows.sequencerGapsRow.recurses==Tryz.pinned.checked.prog.recurses 4))=true:=by kernel_rfl
theorem Bx:((Rows.sequencerGapsRow.named==Tryz.pinned.checked.prog.varsNamed 4))=true:=by kernel_rfl
theorem By:((Rows.sequencerGapsRow.maps==(Tryz.f4.params.toList++Rows.sequencerGapsSpec.plain.varTypes Tryz.pinned.checked.prog).any (Tryz.pinned.checked.prog.mapsRec ·)))=true:=by kernel_rfl
theorem Bz:((Rows.sequencerGapsRow.ifaces==(Tryz.f4.params.toList++Rows.sequencerGapsSpec.plain.varTypes Tryz.pinned.checked.prog).any (Tryz.pinned.checked.prog.ifacesRec ·)))=true:=by kernel_rfl
theorem BA:((Rows.sequencerGapsRow.mapsOut==Tryz.pinned.checked.prog.mapsAmong Tryz.f4.resultTypes.toList))=true:=by kernel_rfl
theorem BB:((Rows.sequencerGapsRow.loops==(Tryz.f4.params.toList++Rows.sequencerGapsSpec.plain.varTypes Tryz.pinned.checked.prog).any (Tryz.pinned.checked.prog.loopsFrom ·)))=true:=by kernel_rfl
theorem BD:((Rows.sequencerGapsRow.wideKeys==(Tryz.f4.params.toList++Rows.sequencerGapsSpec.plain.varTypes Tryz.pinned.checked.prog++Tryz.f4.resultTypes.toList).any (Tryz.pinned.checked.prog.wideKeysFrom ·)))=true:=by kernel_rfl
theorem BE:(Rows.sequencerGapsSpec.vars.all (Tryz.pinned.checked.prog.varReadable ·))=true:=by kernel_rfl
theorem BF:(Tryz.f4.resultTypes.all (λt=>Tryz.pinned.checked.prog.readableRec t&&decide (t<Tryz.pinned.checked.prog.types.size)))=true:=by kernel_rfl
theorem BG:((Rows.sequencerGapsRow.ifacesOut==Tryz.f4.resultTypes.toList.any (Tryz.pinned.checked.prog.ifacesRec ·)))=true:=by kernel_rfl
theorem BH:((Rows.sequencerGapsRow.loopsOut==Tryz.f4.resultTypes.toList.any (Tryz.pinned.checked.prog.loopsFrom ·)))=true:=by kernel_rfl
theorem BI:((Rows.sequencerGapsRow.plainKeys==Tryz.pinned.checked.prog.plainKeys))=true:=by kernel_rfl
theorem BJ:(Rows.sequencerGapsRow.shortTexts.isNone)=true:=by kernel_rfl
theorem BK:(Tryz.pinned.checked.prog.stopsHeard)=true:=by kernel_rfl
theorem BL:(Tryz.pinned.checked.prog.mayEnter)=true:=by kernel_rfl
theorem BM:((Rows.sequencerGapsRow.lifted==Tryz.pinned.checked.prog.liftsFinal))=true:=by kernel_rfl
theorem BN:((Tryz.pinned.checked.prog.make==some Rows.sequencerGapsRow.make))=true:=by kernel_rfl
theorem BO:((Rows.sequencerGapsRow.kinds==(if Rows.sequencerGapsRow.domain.isEmpty then [] else Tryz.f4.params.toList.map λt=>match Tryz.pinned.checked.prog.underlying t with | some (.int k)=>some k | _=>none)))=true:=by kernel_rfl
theorem BP:((Rows.sequencerGapsRow.pinned==Rows.sequencerGapsRow.pinnedBy))=true:=by kernel_rfl
theorem BQ:((Rows.sequencerGapsRow.veiled==(Tryz.f4.params.toList++Rows.sequencerGapsSpec.plain.varTypes Tryz.pinned.checked.prog++Tryz.f4.resultTypes.toList).any (Tryz.pinned.checked.prog.veiledRec ·)))=true:=by kernel_rfl
theorem BR:(Rows.sequencerGapsRow.veiledFits Tryz.pinned.checked.prog Tryz.f4.params.toList (Tryz.f4.params.toList++Rows.sequencerGapsSpec.plain.varTypes Tryz.pinned.checked.prog++Tryz.f4.resultTypes.toList))=true:=by kernel_rfl
set_option maxRecDepth 100000 in
theorem facts:joinedFacts Tryz.pinned.checked.prog 4 Tryz.f4 Rows.sequencerGapsSpec Rows.sequencerGapsRow=true:=by
 unfold joinedFacts;simp only [Bool.and_eq_true];exact ⟨⟨⟨⟨⟨⟨⟨⟨⟨⟨⟨⟨⟨⟨⟨⟨⟨⟨⟨⟨⟨⟨⟨⟨⟨⟨⟨⟨⟨⟨⟨Jo,Jp⟩,Jq⟩,Jr⟩,Jt⟩,Ju⟩,Jv⟩,Jw⟩,Jx⟩,Bt⟩,Bu⟩,Bv⟩,Bx⟩,By⟩,Bz⟩,BA⟩,BB⟩,BD⟩,BE⟩,BF⟩,BG⟩,BH⟩,BI⟩,BJ⟩,BK⟩,BL⟩,BM⟩,BN⟩,BO⟩,BP⟩,BQ⟩,BR⟩
end Go.Proofs.YteajeefphbjnmaaGreatDoor
namespace Go.Proofs.YteajeefphbjnmaaGreatDoor
open Go
theorem zI:Rows.SequencerGapsSaid:=
 OpenClaim.holds_of_wide 4 Tryz.f4 rfl rfl rfl rfl rfl rfl rfl ⟨rfl,rfl,rfl,rfl,rfl⟩ rfl rfl rfl rfl rfl (by kernel_rfl) Tryz.func4 facts
  (of_decide_eq_true (by kernel_rfl)) (by unfold Func.isWrapper;rw [if_neg (of_decide_eq_false (by kernel_rfl))];exact ⟨rfl,rfl⟩)
  (λos started H enc _=>RO os started H enc)
end Go.Proofs.YteajeefphbjnmaaGreatDoor
namespace Go.Proofs.YteajeefphbjnmaaGreatDoor
open Go
theorem uh:Rows.sequencerGapsRow.wfByText (OpenSpec.ofChange Rows.sequencerGapsSpec)=true:=by kernel_rfl
theorem jE:Tryz.prog.funcNamed "blotter/blotterlaw14.SequencerGaps" =some 4:=by kernel_rfl
theorem gW:([22,40,3].all λu=>!Tryz.prog.wantsStandIn u)=true:=by kernel_rfl
theorem me:false=Rows.sequencerGapsRow.goesBy Tryz.pinned.checked.prog:=kj rfl y9
end Go.Proofs.YteajeefphbjnmaaGreatDoor
