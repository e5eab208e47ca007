/-
  The sequencer's laws. Part ROnce of the proof: SequencerOnce: the law returns true at every input, and leaves its argument alone, where the listed variables read as listed: the contract in the row's form.
-/
import Derived.Test.YteajeefphbjnmaaGreatDoorRows
import Derived.JoinedOf
import Derived.Test.YteajeefphbjnmaaGreatDoorZBI
import Derived.Test.YteajeefphbjnmaaGreatDoorEOnce
namespace Go.Proofs.YteajeefphbjnmaaGreatDoor
open Go.ChangeShapes Go.WideShapes Go.ChangeAt Go.RowKit
set_option maxRecDepth 100000 in
theorem Mk {H:Type}{enc:TypeId×Value->H} (W:World) (base:Nat) (args:Array Value) (ds gs:List (DataW H)) (before:List MemPlace)
  (Jn:∀(j:Nat) t v,Tryz.f3.params[j]? =some t->args[j]? =some v->Value.okWide Tryz.prog W .any base t v) (hW:DataW.Whole enc Tryz.prog Tryz.f3.params.toList Rows.sequencerOnceSpec.vars false W args.toList ds gs before)
  (hL:laidMetH Tryz.prog Rows.sequencerOnceRow.laid W) (hS:W.ShapedOpen Tryz.prog):
  Calls Tryz.prog 3 args W λe W'=>∃v,e = .returned v/\Rows.sequencerOnceSpec.post enc Tryz.prog Tryz.f3 false true false false W args v W':=by
 have eA:∀(j:Nat) t v,Tryz.f3.params[j]? =some t->args[j]? =some v->Value.okWide Tryz.prog W .any base t v:=Jn;have hW':=hW;obtain ⟨p,q,hA0,hV,rfl,NB,Rl⟩:=hW;have hA:DataW.TrodAll enc Tryz.prog W 0 (λ_=>true) true Tryz.f3.params.toList args.toList ds p:=hA0;rw [Tryz.params3] at hA eA;obtain ⟨v0,d0,rfl,rfl,h0⟩:=trodAll_one hA;obtain ⟨rfl,rfl⟩:=trodVars_none hV;have bA:∀x∈p,x.block<W.heap.size:=λx hx=>hW'.lt x (by simpa using hx);have e1:Rows.sequencerOnceSpec.fn H ([d0]++[]) = {results:=[.lit (.bool true)],args:=[d0]}:=by simp [Rows.sequencerOnceSpec]
 obtain ⟨fuel,hf⟩:=h0;have hc:=one_cell Tryz.underlying22 (eA 0 22 v0 rfl rfl);have hf':=hf;rw [hc] at hf';obtain ⟨l,D,l1,l2⟩:=K.O9 (N:=top W) (Br W) hf';refine (Di (f:=3) (xs:=[v0]) Tryz.func3 rfl (by kernel_rfl) hL (K.abL K.Xu Dx.Dh (Xv hS hL) D l1 l2 λ_=>rfl) (.cons (Dx.xr _ v0) .nil)).mono λe W' ⟨he,hb⟩=>?_;subst he;refine ⟨_,rfl,_,_,_,[],p,[],hW',?_,?_,?_,hb.frame _,λh=>by cases h⟩
 ·rw [e1];exact trodAll_mk1 (shut_bool Tryz.underlying4 true)
 ·rw [e1]
  exact trodAll_mk1 (Below.trod laidOut (by kernel_rfl) (of_decide_eq_true (by kernel_rfl)) ⟨fuel,hf⟩ hb (λx hx=>bA x hx))
 ·rw [e1];rfl
end Go.Proofs.YteajeefphbjnmaaGreatDoor
namespace Go.Proofs.YteajeefphbjnmaaGreatDoor
open Go.ChangeShapes Go.WideShapes Go.ChangeAt Go.RowKit
set_option maxRecDepth 100000 in
theorem RP (os:Os)(started:os.Started)(H:Type)(enc:TypeId×Value->H):
  ReturnsInHanded {} Tryz.checked os 3 .any (λw args=>(Rows.sequencerOnceSpec.pre enc Tryz.prog Tryz.f3 [] false w args/\laidMetH Tryz.prog Rows.sequencerOnceRow.laid w)/\sizedMet enc Tryz.prog Tryz.f3 (OpenSpec.ofChange Rows.sequencerOnceSpec) false w args)
   (Rows.sequencerOnceSpec.post enc Tryz.prog Tryz.f3 false true false false):=by
 refine returnsInHanded_of_calls own started (by kernel_rfl)
  (ChangeSpec.witness_shaped (enc:=enc) (C:=Tryz.checked) (os:=os) (X:=λw _=>laidMetH Tryz.prog Rows.sequencerOnceRow.laid w) false (start os) #[.slice none 0 0] 8 (World.layVars_os _ _ _) (World.shaped_of_ZipB (by kernel_rfl) (by kernel_rfl)) (by kernel_rfl) (by kernel_rfl) (by kernel_rfl) (Dj os _)) ?_
 intro w tape i _ hS _ pX UW _;obtain ⟨_,_,_,fn,qW,_,_,_,_,eA⟩:=pX;obtain rfl:fn=Tryz.f3:=Option.some.inj (qW.symm.trans Tryz.func3);obtain ⟨⟨⟨ds,gs,before,hw,_⟩,hx⟩,_⟩:=UW;have cG:=DataW.Whole.of_heap (w':=w.forCall tape i) (by rfl) hw;refine (Mk (w.forCall tape i) w.heap.size i.args ds gs before eA cG (hx.of_heap (by rfl)) hS).mono λe W' ⟨v,he,hp⟩=>?_;subst he;exact ChangeSpec.post_blind hp
end Go.Proofs.YteajeefphbjnmaaGreatDoor
namespace Go.Proofs.YteajeefphbjnmaaGreatDoor
open Go
theorem Jo:(Rows.sequencerOnceRow.wf (OpenSpec.ofChange Rows.sequencerOnceSpec))=true:=by kernel_rfl
theorem Jp:(laidOutB Tryz.pinned.checked.prog)=true:=by kernel_rfl
theorem Jq:(mapsRowed Tryz.pinned.checked.prog)=true:=by kernel_rfl
theorem Jr:(Tryz.f3.params.all (Tryz.pinned.checked.prog.readableRec ·))=true:=by kernel_rfl
theorem Jt:(namedTie Tryz.pinned.checked.prog Rows.sequencerOnceRow.named Rows.sequencerOnceSpec.vars)=true:=by kernel_rfl
theorem Ju:((Rows.sequencerOnceRow.stops==[]))=true:=by kernel_rfl
theorem Jv:((Tryz.pinned.checked.prog.stops==[]))=true:=by kernel_rfl
theorem Jw:((Rows.sequencerOnceRow.knobs==[]))=true:=by kernel_rfl
theorem Jx:((Tryz.pinned.checked.prog.stopKnobs==[]))=true:=by kernel_rfl
theorem Bt:((Rows.sequencerOnceRow.inPlace==Tryz.pinned.checked.prog.inPlace 3))=true:=by kernel_rfl
theorem Bu:((Rows.sequencerOnceRow.unfollowed==Tryz.pinned.checked.prog.unfollowed 3))=true:=by kernel_rfl
theorem Bv:((Rows.sequencerOnceRow.recurses==Tryz.pinned.checked.prog.recurses 3))=true:=by kernel_rfl
theorem Bx:((Rows.sequencerOnceRow.named==Tryz.pinned.checked.prog.varsNamed 3))=true:=by kernel_rfl
theorem By:((Rows.sequencerOnceRow.maps==(Tryz.f3.params.toList++Rows.sequencerOnceSpec.plain.varTypes Tryz.pinned.checked.prog).any (Tryz.pinned.checked.prog.mapsRec ·)))=true:=by kernel_rfl
theorem Bz:((Rows.sequencerOnceRow.ifaces==(Tryz.f3.params.toList++Rows.sequencerOnceSpec.plain.varTypes Tryz.pinned.checked.prog).any (Tryz.pinned.checked.prog.ifacesRec ·)))=true:=by kernel_rfl
theorem BA:((Rows.sequencerOnceRow.mapsOut==Tryz.pinned.checked.prog.mapsAmong Tryz.f3.resultTypes.toList))=true:=by kernel_rfl
theorem BB:((Rows.sequencerOnceRow.loops==(Tryz.f3.params.toList++Rows.sequencerOnceSpec.plain.varTypes Tryz.pinned.checked.prog).any (Tryz.pinned.checked.prog.loopsFrom ·)))=true:=by kernel_rfl
theorem BD:((Rows.sequencerOnceRow.wideKeys==(Tryz.f3.params.toList++Rows.sequencerOnceSpec.plain.varTypes Tryz.pinned.checked.prog++Tryz.f3.resultTypes.toList).any (Tryz.pinned.checked.prog.wideKeysFrom ·)))=true:=by kernel_rfl
theorem BE:(Rows.sequencerOnceSpec.vars.all (Tryz.pinned.checked.prog.varReadable ·))=true:=by kernel_rfl
theorem BF:(Tryz.f3.resultTypes.all (λt=>Tryz.pinned.checked.prog.readableRec t&&decide (t<Tryz.pinned.checked.prog.types.size)))=true:=by kernel_rfl
theorem BG:((Rows.sequencerOnceRow.ifacesOut==Tryz.f3.resultTypes.toList.any (Tryz.pinned.checked.prog.ifacesRec ·)))=true:=by kernel_rfl
theorem BH:((Rows.sequencerOnceRow.loopsOut==Tryz.f3.resultTypes.toList.any (Tryz.pinned.checked.prog.loopsFrom ·)))=true:=by kernel_rfl
theorem BI:((Rows.sequencerOnceRow.plainKeys==Tryz.pinned.checked.prog.plainKeys))=true:=by kernel_rfl
theorem BJ:(Rows.sequencerOnceRow.shortTexts.isNone)=true:=by kernel_rfl
theorem BK:(Tryz.pinned.checked.prog.stopsHeard)=true:=by kernel_rfl
theorem BL:(Tryz.pinned.checked.prog.mayEnter)=true:=by kernel_rfl
theorem BM:((Rows.sequencerOnceRow.lifted==Tryz.pinned.checked.prog.liftsFinal))=true:=by kernel_rfl
theorem BN:((Tryz.pinned.checked.prog.make==some Rows.sequencerOnceRow.make))=true:=by kernel_rfl
theorem BO:((Rows.sequencerOnceRow.kinds==(if Rows.sequencerOnceRow.domain.isEmpty then [] else Tryz.f3.params.toList.map λt=>match Tryz.pinned.checked.prog.underlying t with | some (.int k)=>some k | _=>none)))=true:=by kernel_rfl
theorem BP:((Rows.sequencerOnceRow.pinned==Rows.sequencerOnceRow.pinnedBy))=true:=by kernel_rfl
theorem BQ:((Rows.sequencerOnceRow.veiled==(Tryz.f3.params.toList++Rows.sequencerOnceSpec.plain.varTypes Tryz.pinned.checked.prog++Tryz.f3.resultTypes.toList).any (Tryz.pinned.checked.prog.veiledRec ·)))=true:=by kernel_rfl
theorem BR:(Rows.sequencerOnceRow.veiledFits Tryz.pinned.checked.prog Tryz.f3.params.toList (Tryz.f3.params.toList++Rows.sequencerOnceSpec.plain.varTypes Tryz.pinned.checked.prog++Tryz.f3.resultTypes.toList))=true:=by kernel_rfl
set_option maxRecDepth 100000 in
theorem facts:joinedFacts Tryz.pinned.checked.prog 3 Tryz.f3 Rows.sequencerOnceSpec Rows.sequencerOnceRow=true:=by
 unfold joinedFacts;simp only [Bool.and_eq_true];exact ⟨⟨⟨⟨⟨⟨⟨⟨⟨⟨⟨⟨⟨⟨⟨⟨⟨⟨⟨⟨⟨⟨⟨⟨⟨⟨⟨⟨⟨⟨⟨Jo,Jp⟩,Jq⟩,Jr⟩,Jt⟩,Ju⟩,Jv⟩,Jw⟩,Jx⟩,Bt⟩,Bu⟩,Bv⟩,Bx⟩,By⟩,Bz⟩,BA⟩,BB⟩,BD⟩,BE⟩,BF⟩,BG⟩,BH⟩,BI⟩,BJ⟩,BK⟩,BL⟩,BM⟩,BN⟩,BO⟩,BP⟩,BQ⟩,BR⟩
end Go.Proofs.YteajeefphbjnmaaGreatDoor
namespace Go.Proofs.YteajeefphbjnmaaGreatDoor
open Go
theorem zJ:Rows.SequencerOnceSaid:=
 OpenClaim.holds_of_wide 3 Tryz.f3 rfl rfl rfl rfl rfl rfl rfl ⟨rfl,rfl,rfl,rfl,rfl⟩ rfl rfl rfl rfl rfl (by kernel_rfl) Tryz.func3 facts
  (of_decide_eq_true (by kernel_rfl)) (by unfold Func.isWrapper;rw [if_neg (of_decide_eq_false (by kernel_rfl))];exact ⟨rfl,rfl⟩)
  (λos started H enc _=>RP os started H enc)
end Go.Proofs.YteajeefphbjnmaaGreatDoor
namespace Go.Proofs.YteajeefphbjnmaaGreatDoor
open Go
theorem uh:Rows.sequencerOnceRow.wfByText (OpenSpec.ofChange Rows.sequencerOnceSpec)=true:=by kernel_rfl
theorem jE:Tryz.prog.funcNamed "blotter/blotterlaw14.SequencerOnce" =some 3:=by kernel_rfl
theorem gW:([22].all λu=>!Tryz.prog.wantsStandIn u)=true:=by kernel_rfl
theorem me:false=Rows.sequencerOnceRow.goesBy Tryz.pinned.checked.prog:=kj rfl y9
end Go.Proofs.YteajeefphbjnmaaGreatDoor
