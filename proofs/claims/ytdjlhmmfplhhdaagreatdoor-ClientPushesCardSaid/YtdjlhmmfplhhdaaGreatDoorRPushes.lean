/-
  The client's laws. Part RPushes of the proof: ClientPushes: the law returns true at every input, and leaves its argument alone, where the listed variables read as listed: the contract in the row's form.
-/
import Derived.Test.YtdjlhmmfplhhdaaGreatDoorRows
import Derived.JoinedOf
import Derived.Test.YtdjlhmmfplhhdaaGreatDoorZBJ
import Derived.Test.YtdjlhmmfplhhdaaGreatDoorEPushes
namespace Go.Proofs.YtdjlhmmfplhhdaaGreatDoor
open Go.ChangeShapes Go.WideShapes Go.ChangeAt Go.RowKit
set_option maxRecDepth 100000 in
theorem Iq {H:Type}{enc:TypeId×Value->H} (W:World) (base:Nat) (args:Array Value) (ds gs:List (DataW H)) (before:List MemPlace)
  (Ta:∀(j:Nat) t v,Tryz.f6.params[j]? =some t->args[j]? =some v->Value.okWide Tryz.prog W .any base t v) (hW:DataW.Whole enc Tryz.prog Tryz.f6.params.toList Rows.clientPushesSpec.vars false W args.toList ds gs before)
  (hL:laidMetH Tryz.prog Rows.clientPushesRow.laid W) (hS:W.ShapedOpen Tryz.prog):
  Calls Tryz.prog 6 args W λe W'=>∃v,e = .returned v/\Rows.clientPushesSpec.post enc Tryz.prog Tryz.f6 false true false false W args v W':=by
 have fZ:∀(j:Nat) t v,Tryz.f6.params[j]? =some t->args[j]? =some v->Value.okWide Tryz.prog W .any base t v:=Ta;have hW':=hW;obtain ⟨p,q,hA0,hV,rfl,Tb,Tc⟩:=hW;have hA:DataW.TrodAll enc Tryz.prog W 0 (λ_=>true) true Tryz.f6.params.toList args.toList ds p:=hA0;rw [Tryz.params6] at hA fZ;obtain ⟨v0,d0,rfl,rfl,h0⟩:=trodAll_one hA;obtain ⟨rfl,rfl⟩:=trodVars_none hV;have bA:∀x∈p,x.block<W.heap.size:=λx hx=>hW'.lt x (by simpa using hx);have e1:Rows.clientPushesSpec.fn H ([d0]++[]) = {results:=[.lit (.bool true)],args:=[d0]}:=by simp [Rows.clientPushesSpec]
 obtain ⟨fuel,hf⟩:=h0;have hc:=one_cell Tryz.underlying22 (fZ 0 22 v0 rfl rfl);have YE:=hf;rw [hc] at YE;obtain ⟨l,D,l1,l2⟩:=K.Wd (N:=top W) (JI W) YE;refine (JJ (f:=6) (xs:=[v0]) Tryz.func6 rfl (by kernel_rfl) hL (K.V3 K.acQ Dx.JK (acR hS hL) D l1 l2 λ_=>rfl) (.cons (Dx.B5 _ v0) .nil)).mono λe W' ⟨he,hb⟩=>?_;subst he;refine ⟨_,rfl,_,_,_,[],p,[],hW',?_,?_,?_,hb.frame _,λh=>by cases h⟩
 ·rw [e1];exact trodAll_mk1 (shut_bool Tryz.underlying4 true)
 ·rw [e1]
  exact trodAll_mk1 (Below.trod laidOut (by kernel_rfl) (of_decide_eq_true (by kernel_rfl)) ⟨fuel,hf⟩ hb (λx hx=>bA x hx))
 ·rw [e1];rfl
end Go.Proofs.YtdjlhmmfplhhdaaGreatDoor
namespace Go.Proofs.YtdjlhmmfplhhdaaGreatDoor
open Go.ChangeShapes Go.WideShapes Go.ChangeAt Go.RowKit
set_option maxRecDepth 100000 in
theorem Nb (os:Os)(started:os.Started)(H:Type)(enc:TypeId×Value->H):
  ReturnsInHanded {} Tryz.checked os 6 .any (λw args=>(Rows.clientPushesSpec.pre enc Tryz.prog Tryz.f6 [] false w args/\laidMetH Tryz.prog Rows.clientPushesRow.laid w)/\sizedMet enc Tryz.prog Tryz.f6 (OpenSpec.ofChange Rows.clientPushesSpec) false w args)
   (Rows.clientPushesSpec.post enc Tryz.prog Tryz.f6 false true false false):=by
 refine returnsInHanded_of_calls own started (by kernel_rfl)
  (ChangeSpec.witness_shaped (enc:=enc) (C:=Tryz.checked) (os:=os) (X:=λw _=>laidMetH Tryz.prog Rows.clientPushesRow.laid w) false (start os) #[.slice none 0 0] 8 (World.layVars_os _ _ _) (World.shaped_of_ZipB (by kernel_rfl) (by kernel_rfl)) (by kernel_rfl) (by kernel_rfl) (by kernel_rfl) (JL os _)) ?_
 intro w tape i _ hS _ rJ acS _;obtain ⟨_,_,_,fn,Dm,_,_,_,_,fZ⟩:=rJ;obtain rfl:fn=Tryz.f6:=Option.some.inj (Dm.symm.trans Tryz.func6);obtain ⟨⟨⟨ds,gs,before,hw,_⟩,hx⟩,_⟩:=acS;have dO:=DataW.Whole.of_heap (w':=w.forCall tape i) (by rfl) hw;refine (Iq (w.forCall tape i) w.heap.size i.args ds gs before fZ dO (hx.of_heap (by rfl)) hS).mono λe W' ⟨v,he,hp⟩=>?_;subst he;exact ChangeSpec.post_blind hp
end Go.Proofs.YtdjlhmmfplhhdaaGreatDoor
namespace Go.Proofs.YtdjlhmmfplhhdaaGreatDoor
open Go
theorem Td:(Rows.clientPushesRow.wf (OpenSpec.ofChange Rows.clientPushesSpec))=true:=by kernel_rfl
theorem Te:(laidOutB Tryz.pinned.checked.prog)=true:=by kernel_rfl
theorem Tf:(mapsRowed Tryz.pinned.checked.prog)=true:=by kernel_rfl
theorem Tg:(Tryz.f6.params.all (Tryz.pinned.checked.prog.readableRec ·))=true:=by kernel_rfl
theorem Ti:(namedTie Tryz.pinned.checked.prog Rows.clientPushesRow.named Rows.clientPushesSpec.vars)=true:=by kernel_rfl
theorem Tj:((Rows.clientPushesRow.stops==[]))=true:=by kernel_rfl
theorem Tk:((Tryz.pinned.checked.prog.stops==[]))=true:=by kernel_rfl
theorem Tl:((Rows.clientPushesRow.knobs==[]))=true:=by kernel_rfl
theorem Tm:((Tryz.pinned.checked.prog.stopKnobs==[]))=true:=by kernel_rfl
theorem JM:((Rows.clientPushesRow.inPlace==Tryz.pinned.checked.prog.inPlace 6))=true:=by kernel_rfl
theorem JN:((Rows.clientPushesRow.unfollowed==Tryz.pinned.checked.prog.unfollowed 6))=true:=by kernel_rfl
theorem JO:((Rows.clientPushesRow.recurses==Tryz.pinned.checked.prog.recurses 6))=true:=by kernel_rfl
theorem JP:((Rows.clientPushesRow.named==Tryz.pinned.checked.prog.varsNamed 6))=true:=by kernel_rfl
theorem JQ:((Rows.clientPushesRow.maps==(Tryz.f6.params.toList++Rows.clientPushesSpec.plain.varTypes Tryz.pinned.checked.prog).any (Tryz.pinned.checked.prog.mapsRec ·)))=true:=by kernel_rfl
theorem JR:((Rows.clientPushesRow.ifaces==(Tryz.f6.params.toList++Rows.clientPushesSpec.plain.varTypes Tryz.pinned.checked.prog).any (Tryz.pinned.checked.prog.ifacesRec ·)))=true:=by kernel_rfl
theorem JS:((Rows.clientPushesRow.mapsOut==Tryz.pinned.checked.prog.mapsAmong Tryz.f6.resultTypes.toList))=true:=by kernel_rfl
theorem JT:((Rows.clientPushesRow.loops==(Tryz.f6.params.toList++Rows.clientPushesSpec.plain.varTypes Tryz.pinned.checked.prog).any (Tryz.pinned.checked.prog.loopsFrom ·)))=true:=by kernel_rfl
theorem JU:((Rows.clientPushesRow.wideKeys==(Tryz.f6.params.toList++Rows.clientPushesSpec.plain.varTypes Tryz.pinned.checked.prog++Tryz.f6.resultTypes.toList).any (Tryz.pinned.checked.prog.wideKeysFrom ·)))=true:=by kernel_rfl
theorem JV:(Rows.clientPushesSpec.vars.all (Tryz.pinned.checked.prog.varReadable ·))=true:=by kernel_rfl
theorem JW:(Tryz.f6.resultTypes.all (λt=>Tryz.pinned.checked.prog.readableRec t&&decide (t<Tryz.pinned.checked.prog.types.size)))=true:=by kernel_rfl
theorem JX:((Rows.clientPushesRow.ifacesOut==Tryz.f6.resultTypes.toList.any (Tryz.pinned.checked.prog.ifacesRec ·)))=true:=by kernel_rfl
theorem JY:((Rows.clientPushesRow.loopsOut==Tryz.f6.resultTypes.toList.any (Tryz.pinned.checked.prog.loopsFrom ·)))=true:=by kernel_rfl
theorem JZ:((Rows.clientPushesRow.plainKeys==Tryz.pinned.checked.prog.plainKeys))=true:=by kernel_rfl
theorem J0:(Rows.clientPushesRow.shortTexts.isNone)=true:=by kernel_rfl
theorem J1:(Tryz.pinned.checked.prog.stopsHeard)=true:=by kernel_rfl
theorem J2:(Tryz.pinned.checked.prog.mayEnter)=true:=by kernel_rfl
theorem J3:((Rows.clientPushesRow.lifted==Tryz.pinned.checked.prog.liftsFinal))=true:=by kernel_rfl
theorem J4:((Tryz.pinned.checked.prog.make==some Rows.clientPushesRow.make))=true:=by kernel_rfl
theorem J5:((Rows.clientPushesRow.kinds==(if Rows.clientPushesRow.domain.isEmpty then [] else Tryz.f6.params.toList.map λt=>match Tryz.pinned.checked.prog.underlying t with | some (.int k)=>some k | _=>none)))=true:=by kernel_rfl
theorem J6:((Rows.clientPushesRow.pinned==Rows.clientPushesRow.pinnedBy))=true:=by kernel_rfl
theorem J7:((Rows.clientPushesRow.veiled==(Tryz.f6.params.toList++Rows.clientPushesSpec.plain.varTypes Tryz.pinned.checked.prog++Tryz.f6.resultTypes.toList).any (Tryz.pinned.checked.prog.veiledRec ·)))=true:=by kernel_rfl
theorem J8:(Rows.clientPushesRow.veiledFits Tryz.pinned.checked.prog Tryz.f6.params.toList (Tryz.f6.params.toList++Rows.clientPushesSpec.plain.varTypes Tryz.pinned.checked.prog++Tryz.f6.resultTypes.toList))=true:=by kernel_rfl
set_option maxRecDepth 100000 in
theorem facts:joinedFacts Tryz.pinned.checked.prog 6 Tryz.f6 Rows.clientPushesSpec Rows.clientPushesRow=true:=by
 unfold joinedFacts;simp only [Bool.and_eq_true];exact ⟨⟨⟨⟨⟨⟨⟨⟨⟨⟨⟨⟨⟨⟨⟨⟨⟨⟨⟨⟨⟨⟨⟨⟨⟨⟨⟨⟨⟨⟨⟨Td,Te⟩,Tf⟩,Tg⟩,Ti⟩,Tj⟩,Tk⟩,Tl⟩,Tm⟩,JM⟩,JN⟩,JO⟩,JP⟩,JQ⟩,JR⟩,JS⟩,JT⟩,JU⟩,JV⟩,JW⟩,JX⟩,JY⟩,JZ⟩,J0⟩,J1⟩,J2⟩,J3⟩,J4⟩,J5⟩,J6⟩,J7⟩,J8⟩
end Go.Proofs.YtdjlhmmfplhhdaaGreatDoor
namespace Go.Proofs.YtdjlhmmfplhhdaaGreatDoor
open Go
theorem B0:Rows.ClientPushesSaid:=
 OpenClaim.holds_of_wide 6 Tryz.f6 rfl rfl rfl rfl rfl rfl rfl ⟨rfl,rfl,rfl,rfl,rfl⟩ rfl rfl rfl rfl rfl (by kernel_rfl) Tryz.func6 facts
  (of_decide_eq_true (by kernel_rfl)) (by unfold Func.isWrapper;rw [if_neg (of_decide_eq_false (by kernel_rfl))];exact ⟨rfl,rfl⟩)
  (λos a H enc _=>Nb os a H enc)
end Go.Proofs.YtdjlhmmfplhhdaaGreatDoor
namespace Go.Proofs.YtdjlhmmfplhhdaaGreatDoor
open Go
theorem Dv:Rows.clientPushesRow.wfByText (OpenSpec.ofChange Rows.clientPushesSpec)=true:=by kernel_rfl
theorem qw:Tryz.prog.funcNamed "blotter/blotterlaw15.ClientPushes" =some 6:=by kernel_rfl
theorem nF:([22].all λu=>!Tryz.prog.wantsStandIn u)=true:=by kernel_rfl
theorem tn:false=Rows.clientPushesRow.goesBy Tryz.pinned.checked.prog:=qC rfl FV
end Go.Proofs.YtdjlhmmfplhhdaaGreatDoor
