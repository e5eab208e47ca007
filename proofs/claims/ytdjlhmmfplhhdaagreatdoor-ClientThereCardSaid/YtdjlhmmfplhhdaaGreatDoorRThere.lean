/-
  The client's laws. Part RThere of the proof: ClientThere: the law returns true at every input, and leaves its argument alone, where the listed variables read as listed: the contract in the row's form.
-/
import Derived.Test.YtdjlhmmfplhhdaaGreatDoorRows
import Derived.JoinedOf
import Derived.Test.YtdjlhmmfplhhdaaGreatDoorZBJ
import Derived.Test.YtdjlhmmfplhhdaaGreatDoorEThere
namespace Go.Proofs.YtdjlhmmfplhhdaaGreatDoor
open Go.ChangeShapes Go.WideShapes Go.ChangeAt Go.RowKit
set_option maxRecDepth 100000 in
theorem Ka {H:Type}{enc:TypeId×Value->H} (W:World) (base:Nat) (args:Array Value) (ds gs:List (DataW H)) (before:List MemPlace)
  (Ta:∀(j:Nat) t v,Tryz.f3.params[j]? =some t->args[j]? =some v->Value.okWide Tryz.prog W .any base t v) (hW:DataW.Whole enc Tryz.prog Tryz.f3.params.toList Rows.clientThereSpec.vars false W args.toList ds gs before)
  (hL:laidMetH Tryz.prog Rows.clientThereRow.laid W) (hS:W.ShapedOpen Tryz.prog):
  Calls Tryz.prog 3 args W λe W'=>∃v,e = .returned v/\Rows.clientThereSpec.post enc Tryz.prog Tryz.f3 false true false false W args v W':=by
 have fZ:∀(j:Nat) t v,Tryz.f3.params[j]? =some t->args[j]? =some v->Value.okWide Tryz.prog W .any base t v:=Ta;have hW':=hW;obtain ⟨p,q,hA0,hV,rfl,Tb,Tc⟩:=hW;have hA:DataW.TrodAll enc Tryz.prog W 0 (λ_=>true) true Tryz.f3.params.toList args.toList ds p:=hA0;rw [Tryz.params3] at hA fZ;obtain ⟨v0,d0,rfl,rfl,h0⟩:=trodAll_one hA;obtain ⟨rfl,rfl⟩:=trodVars_none hV;have bA:∀x∈p,x.block<W.heap.size:=λx hx=>hW'.lt x (by simpa using hx);have e1:Rows.clientThereSpec.fn H ([d0]++[]) = {results:=[.lit (.bool true)],args:=[d0]}:=by simp [Rows.clientThereSpec]
 obtain ⟨fuel,hf⟩:=h0;have hc:=one_cell Tryz.underlying22 (fZ 0 22 v0 rfl rfl);have YE:=hf;rw [hc] at YE;obtain ⟨l,D,l1,l2⟩:=K.Wd (N:=top W) (JI W) YE;refine (JJ (f:=3) (xs:=[v0]) Tryz.func3 rfl (by kernel_rfl) hL (K.ZY K.acQ Dx.JK (acR hS hL) D l1 l2 λ_=>rfl) (.cons (Dx.B5 _ v0) .nil)).mono λe W' ⟨he,hb⟩=>?_;subst he;refine ⟨_,rfl,_,_,_,[],p,[],hW',?_,?_,?_,hb.frame _,λh=>by cases h⟩
 ·rw [e1];exact trodAll_mk1 (shut_bool Tryz.underlying4 true)
 ·rw [e1]
  exact trodAll_mk1 (Below.trod laidOut (by kernel_rfl) (of_decide_eq_true (by kernel_rfl)) ⟨fuel,hf⟩ hb (λx hx=>bA x hx))
 ·rw [e1];rfl
end Go.Proofs.YtdjlhmmfplhhdaaGreatDoor
namespace Go.Proofs.YtdjlhmmfplhhdaaGreatDoor
open Go.ChangeShapes Go.WideShapes Go.ChangeAt Go.RowKit
set_option maxRecDepth 100000 in
theorem P' (os:Os)(started:os.Started)(H:Type)(enc:TypeId×Value->H):
  ReturnsInHanded {} Tryz.checked os 3 .any (λw args=>(Rows.clientThereSpec.pre enc Tryz.prog Tryz.f3 [] false w args/\laidMetH Tryz.prog Rows.clientThereRow.laid w)/\sizedMet enc Tryz.prog Tryz.f3 (OpenSpec.ofChange Rows.clientThereSpec) false w args)
   (Rows.clientThereSpec.post enc Tryz.prog Tryz.f3 false true false false):=by
 refine returnsInHanded_of_calls own started (by kernel_rfl)
  (ChangeSpec.witness_shaped (enc:=enc) (C:=Tryz.checked) (os:=os) (X:=λw _=>laidMetH Tryz.prog Rows.clientThereRow.laid w) false (start os) #[.slice none 0 0] 8 (World.layVars_os _ _ _) (World.shaped_of_ZipB (by kernel_rfl) (by kernel_rfl)) (by kernel_rfl) (by kernel_rfl) (by kernel_rfl) (JL os _)) ?_
 intro w tape i _ hS _ rJ acS _;obtain ⟨_,_,_,fn,Dm,_,_,_,_,fZ⟩:=rJ;obtain rfl:fn=Tryz.f3:=Option.some.inj (Dm.symm.trans Tryz.func3);obtain ⟨⟨⟨ds,gs,before,hw,_⟩,hx⟩,_⟩:=acS;have dO:=DataW.Whole.of_heap (w':=w.forCall tape i) (by rfl) hw;refine (Ka (w.forCall tape i) w.heap.size i.args ds gs before fZ dO (hx.of_heap (by rfl)) hS).mono λe W' ⟨v,he,hp⟩=>?_;subst he;exact ChangeSpec.post_blind hp
end Go.Proofs.YtdjlhmmfplhhdaaGreatDoor
namespace Go.Proofs.YtdjlhmmfplhhdaaGreatDoor
open Go
theorem Td:(Rows.clientThereRow.wf (OpenSpec.ofChange Rows.clientThereSpec))=true:=by kernel_rfl
theorem Te:(laidOutB Tryz.pinned.checked.prog)=true:=by kernel_rfl
theorem Tf:(mapsRowed Tryz.pinned.checked.prog)=true:=by kernel_rfl
theorem Tg:(Tryz.f3.params.all (Tryz.pinned.checked.prog.readableRec ·))=true:=by kernel_rfl
theorem Ti:(namedTie Tryz.pinned.checked.prog Rows.clientThereRow.named Rows.clientThereSpec.vars)=true:=by kernel_rfl
theorem Tj:((Rows.clientThereRow.stops==[]))=true:=by kernel_rfl
theorem Tk:((Tryz.pinned.checked.prog.stops==[]))=true:=by kernel_rfl
theorem Tl:((Rows.clientThereRow.knobs==[]))=true:=by kernel_rfl
theorem Tm:((Tryz.pinned.checked.prog.stopKnobs==[]))=true:=by kernel_rfl
theorem JM:((Rows.clientThereRow.inPlace==Tryz.pinned.checked.prog.inPlace 3))=true:=by kernel_rfl
theorem JN:((Rows.clientThereRow.unfollowed==Tryz.pinned.checked.prog.unfollowed 3))=true:=by kernel_rfl
theorem JO:((Rows.clientThereRow.recurses==Tryz.pinned.checked.prog.recurses 3))=true:=by kernel_rfl
theorem JP:((Rows.clientThereRow.named==Tryz.pinned.checked.prog.varsNamed 3))=true:=by kernel_rfl
theorem JQ:((Rows.clientThereRow.maps==(Tryz.f3.params.toList++Rows.clientThereSpec.plain.varTypes Tryz.pinned.checked.prog).any (Tryz.pinned.checked.prog.mapsRec ·)))=true:=by kernel_rfl
theorem JR:((Rows.clientThereRow.ifaces==(Tryz.f3.params.toList++Rows.clientThereSpec.plain.varTypes Tryz.pinned.checked.prog).any (Tryz.pinned.checked.prog.ifacesRec ·)))=true:=by kernel_rfl
theorem JS:((Rows.clientThereRow.mapsOut==Tryz.pinned.checked.prog.mapsAmong Tryz.f3.resultTypes.toList))=true:=by kernel_rfl
theorem JT:((Rows.clientThereRow.loops==(Tryz.f3.params.toList++Rows.clientThereSpec.plain.varTypes Tryz.pinned.checked.prog).any (Tryz.pinned.checked.prog.loopsFrom ·)))=true:=by kernel_rfl
theorem JU:((Rows.clientThereRow.wideKeys==(Tryz.f3.params.toList++Rows.clientThereSpec.plain.varTypes Tryz.pinned.checked.prog++Tryz.f3.resultTypes.toList).any (Tryz.pinned.checked.prog.wideKeysFrom ·)))=true:=by kernel_rfl
theorem JV:(Rows.clientThereSpec.vars.all (Tryz.pinned.checked.prog.varReadable ·))=true:=by kernel_rfl
theorem JW:(Tryz.f3.resultTypes.all (λt=>Tryz.pinned.checked.prog.readableRec t&&decide (t<Tryz.pinned.checked.prog.types.size)))=true:=by kernel_rfl
theorem JX:((Rows.clientThereRow.ifacesOut==Tryz.f3.resultTypes.toList.any (Tryz.pinned.checked.prog.ifacesRec ·)))=true:=by kernel_rfl
theorem JY:((Rows.clientThereRow.loopsOut==Tryz.f3.resultTypes.toList.any (Tryz.pinned.checked.prog.loopsFrom ·)))=true:=by kernel_rfl
theorem JZ:((Rows.clientThereRow.plainKeys==Tryz.pinned.checked.prog.plainKeys))=true:=by kernel_rfl
theorem J0:(Rows.clientThereRow.shortTexts.isNone)=true:=by kernel_rfl
theorem J1:(Tryz.pinned.checked.prog.stopsHeard)=true:=by kernel_rfl
theorem J2:(Tryz.pinned.checked.prog.mayEnter)=true:=by kernel_rfl
theorem J3:((Rows.clientThereRow.lifted==Tryz.pinned.checked.prog.liftsFinal))=true:=by kernel_rfl
theorem J4:((Tryz.pinned.checked.prog.make==some Rows.clientThereRow.make))=true:=by kernel_rfl
theorem J5:((Rows.clientThereRow.kinds==(if Rows.clientThereRow.domain.isEmpty then [] else Tryz.f3.params.toList.map λt=>match Tryz.pinned.checked.prog.underlying t with | some (.int k)=>some k | _=>none)))=true:=by kernel_rfl
theorem J6:((Rows.clientThereRow.pinned==Rows.clientThereRow.pinnedBy))=true:=by kernel_rfl
theorem J7:((Rows.clientThereRow.veiled==(Tryz.f3.params.toList++Rows.clientThereSpec.plain.varTypes Tryz.pinned.checked.prog++Tryz.f3.resultTypes.toList).any (Tryz.pinned.checked.prog.veiledRec ·)))=true:=by kernel_rfl
theorem J8:(Rows.clientThereRow.veiledFits Tryz.pinned.checked.prog Tryz.f3.params.toList (Tryz.f3.params.toList++Rows.clientThereSpec.plain.varTypes Tryz.pinned.checked.prog++Tryz.f3.resultTypes.toList))=true:=by kernel_rfl
set_option maxRecDepth 100000 in
theorem facts:joinedFacts Tryz.pinned.checked.prog 3 Tryz.f3 Rows.clientThereSpec Rows.clientThereRow=true:=by
 unfold joinedFacts;simp only [Bool.and_eq_true];exact ⟨⟨⟨⟨⟨⟨⟨⟨⟨⟨⟨⟨⟨⟨⟨⟨⟨⟨⟨⟨⟨⟨⟨⟨⟨⟨⟨⟨⟨⟨⟨Td,Te⟩,Tf⟩,Tg⟩,Ti⟩,Tj⟩,Tk⟩,Tl⟩,Tm⟩,JM⟩,JN⟩,JO⟩,JP⟩,JQ⟩,JR⟩,JS⟩,JT⟩,JU⟩,JV⟩,JW⟩,JX⟩,JY⟩,JZ⟩,J0⟩,J1⟩,J2⟩,J3⟩,J4⟩,J5⟩,J6⟩,J7⟩,J8⟩
end Go.Proofs.YtdjlhmmfplhhdaaGreatDoor
namespace Go.Proofs.YtdjlhmmfplhhdaaGreatDoor
open Go
theorem Dw:Rows.ClientThereSaid:=
 OpenClaim.holds_of_wide 3 Tryz.f3 rfl rfl rfl rfl rfl rfl rfl ⟨rfl,rfl,rfl,rfl,rfl⟩ rfl rfl rfl rfl rfl (by kernel_rfl) Tryz.func3 facts
  (of_decide_eq_true (by kernel_rfl)) (by unfold Func.isWrapper;rw [if_neg (of_decide_eq_false (by kernel_rfl))];exact ⟨rfl,rfl⟩)
  (λos a H enc _=>P' os a H enc)
end Go.Proofs.YtdjlhmmfplhhdaaGreatDoor
namespace Go.Proofs.YtdjlhmmfplhhdaaGreatDoor
open Go
theorem Dv:Rows.clientThereRow.wfByText (OpenSpec.ofChange Rows.clientThereSpec)=true:=by kernel_rfl
theorem qw:Tryz.prog.funcNamed "blotter/blotterlaw15.ClientThere" =some 3:=by kernel_rfl
theorem nF:([22].all λu=>!Tryz.prog.wantsStandIn u)=true:=by kernel_rfl
theorem tn:false=Rows.clientThereRow.goesBy Tryz.pinned.checked.prog:=qC rfl FV
end Go.Proofs.YtdjlhmmfplhhdaaGreatDoor
