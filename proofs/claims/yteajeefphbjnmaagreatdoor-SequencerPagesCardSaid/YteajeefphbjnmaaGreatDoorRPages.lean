/-
  The sequencer's laws. Part RPages of the proof: SequencerPages: the law returns true at every input, and leaves its arguments alone, where the listed variables read as listed: the contract in the row's form.
-/
import Derived.Test.YteajeefphbjnmaaGreatDoorRows
import Derived.JoinedOf
import Derived.Test.YteajeefphbjnmaaGreatDoorZBI
import Derived.Test.YteajeefphbjnmaaGreatDoorEPages
namespace Go.Proofs.YteajeefphbjnmaaGreatDoor
open Go.ChangeShapes Go.WideShapes Go.ChangeAt Go.RowKit
theorem afl {P:Program}{w:World}{base:Nat}{t:TypeId}{v:Value}(ht:P.underlying t=some .string)(h:Value.okWide P w .any base t v):∃s:ByteArray,v = .string s/\(s.size:Int)<=IntKind.i64.max:=by
 unfold Value.okWide at h;rw [ht] at h;have h:Cell.okWide P w .any base t v:=h;unfold Cell.okWide Cell.ok at h;rw [ht] at h;cases v<;>first | exact ⟨_,rfl,h⟩ | simp at h
set_option maxRecDepth 100000 in
theorem Jy {H:Type}{enc:TypeId×Value->H} (W:World) (base:Nat) (args:Array Value) (ds gs:List (DataW H)) (before:List MemPlace)
  (Jn:∀(j:Nat) t v,Tryz.f6.params[j]? =some t->args[j]? =some v->Value.okWide Tryz.prog W .any base t v) (hW:DataW.Whole enc Tryz.prog Tryz.f6.params.toList Rows.sequencerPagesSpec.vars false W args.toList ds gs before)
  (hL:laidMetH Tryz.prog Rows.sequencerOnceRow.laid W) (hS:W.ShapedOpen Tryz.prog):
  Calls Tryz.prog 6 args W λe W'=>∃v,e = .returned v/\Rows.sequencerPagesSpec.post enc Tryz.prog Tryz.f6 false true false false W args v W':=by
 have eA:∀(j:Nat) t v,Tryz.f6.params[j]? =some t->args[j]? =some v->Value.okWide Tryz.prog W .any base t v:=Jn;have hW':=hW;obtain ⟨p,q,hA0,hV,rfl,NB,Rl⟩:=hW;have hA:DataW.TrodAll enc Tryz.prog W 0 (λ_=>true) true Tryz.f6.params.toList args.toList ds p:=hA0;rw [Tryz.params6] at hA eA;obtain ⟨v0,v1,d0,d1,q0,q1,rfl,rfl,rfl,h0,h1⟩:=trodAll_two hA;obtain ⟨rfl,rfl⟩:=trodVars_none hV;have bA:∀x∈q0++q1,x.block<W.heap.size:=λx hx=>hW'.lt x (by simpa using hx);have e1:Rows.sequencerPagesSpec.fn H ([d0,d1]++[]) = {results:=[.lit (.bool true)],args:=[d0,d1]}:=by simp [Rows.sequencerPagesSpec]
 obtain ⟨fuel,hf⟩:=h0;have hc:=one_cell Tryz.underlying22 (eA 0 22 v0 rfl rfl);have hf':=hf;rw [hc] at hf';obtain ⟨l,D,l1,l2⟩:=K.O9 (N:=top W) (Br W) hf';obtain ⟨s,rfl,hs⟩:=afl Tryz.underlying9 (eA 1 9 v1 rfl rfl);have yZ:s.size<=maxLen:=by
  have e:IntKind.i64.max=9223372036854775807:=by decide
  rw [e] at hs;have hm:maxLen=9223372036854775807:=rfl;omega
 have hw:=K.YR (Q:=λv _=>v = .bool true) K.Xu Dx.Dh (Xv hS hL) D l1 l2 (K.sV yZ) λ_=>rfl;refine (Di (f:=6) (xs:=[v0,.string s]) Tryz.func6 rfl (by kernel_rfl) hL hw (.cons (Dx.xr _ v0) (.cons (.str s) .nil))).mono λe W' ⟨he,hb⟩=>?_;subst he;refine ⟨_,rfl,_,_,_,[],q0++q1,[],hW',?_,?_,?_,hb.frame _,λh=>by cases h⟩
 ·rw [e1];exact trodAll_mk1 (shut_bool Tryz.underlying4 true)
 ·rw [e1]
  exact trodAll_mk2 (Below.trod laidOut (by kernel_rfl) (of_decide_eq_true (by kernel_rfl)) ⟨fuel,hf⟩ hb (λx hx=>bA x (by simp [hx])))
   (Below.trod laidOut (by kernel_rfl) (of_decide_eq_true (by kernel_rfl)) h1 hb (λx hx=>bA x (by simp [hx])))
 ·rw [e1];rfl
end Go.Proofs.YteajeefphbjnmaaGreatDoor
namespace Go.Proofs.YteajeefphbjnmaaGreatDoor
open Go.ChangeShapes Go.WideShapes Go.ChangeAt Go.RowKit
set_option maxRecDepth 100000 in
theorem Pa (os:Os)(started:os.Started)(H:Type)(enc:TypeId×Value->H):
  ReturnsInHanded {} Tryz.checked os 6 .any (λw args=>(Rows.sequencerPagesSpec.pre enc Tryz.prog Tryz.f6 [] false w args/\laidMetH Tryz.prog Rows.sequencerPagesRow.laid w)/\sizedMet enc Tryz.prog Tryz.f6 (OpenSpec.ofChange Rows.sequencerPagesSpec) false w args)
   (Rows.sequencerPagesSpec.post enc Tryz.prog Tryz.f6 false true false false):=by
 refine returnsInHanded_of_calls own started (by kernel_rfl)
  (ChangeSpec.witness_shaped (enc:=enc) (C:=Tryz.checked) (os:=os) (X:=λw _=>laidMetH Tryz.prog Rows.sequencerPagesRow.laid w) false (start os) #[.slice none 0 0,.string ⟨#[]⟩] 8 (World.layVars_os _ _ _) (World.shaped_of_ZipB (by kernel_rfl) (by kernel_rfl)) (by kernel_rfl) (by kernel_rfl) (by kernel_rfl) (Dj os _)) ?_
 intro w tape i _ hS _ pX UW _;obtain ⟨_,_,_,fn,qW,_,_,_,_,eA⟩:=pX;obtain rfl:fn=Tryz.f6:=Option.some.inj (qW.symm.trans Tryz.func6);obtain ⟨⟨⟨ds,gs,before,hw,_⟩,hx⟩,_⟩:=UW;have cG:=DataW.Whole.of_heap (w':=w.forCall tape i) (by rfl) hw;refine (Jy (w.forCall tape i) w.heap.size i.args ds gs before eA cG (hx.of_heap (by rfl)) hS).mono λe W' ⟨v,he,hp⟩=>?_;subst he;exact ChangeSpec.post_blind hp
end Go.Proofs.YteajeefphbjnmaaGreatDoor
namespace Go.Proofs.YteajeefphbjnmaaGreatDoor
open Go
theorem Jo:(Rows.sequencerPagesRow.wf (OpenSpec.ofChange Rows.sequencerPagesSpec))=true:=by kernel_rfl
theorem Jp:(laidOutB Tryz.pinned.checked.prog)=true:=by kernel_rfl
theorem Jq:(mapsRowed Tryz.pinned.checked.prog)=true:=by kernel_rfl
theorem Jr:(Tryz.f6.params.all (Tryz.pinned.checked.prog.readableRec ·))=true:=by kernel_rfl
theorem Jt:(namedTie Tryz.pinned.checked.prog Rows.sequencerPagesRow.named Rows.sequencerPagesSpec.vars)=true:=by kernel_rfl
theorem Ju:((Rows.sequencerPagesRow.stops==[]))=true:=by kernel_rfl
theorem Jv:((Tryz.pinned.checked.prog.stops==[]))=true:=by kernel_rfl
theorem Jw:((Rows.sequencerPagesRow.knobs==[]))=true:=by kernel_rfl
theorem Jx:((Tryz.pinned.checked.prog.stopKnobs==[]))=true:=by kernel_rfl
theorem Bt:((Rows.sequencerPagesRow.inPlace==Tryz.pinned.checked.prog.inPlace 6))=true:=by kernel_rfl
theorem Bu:((Rows.sequencerPagesRow.unfollowed==Tryz.pinned.checked.prog.unfollowed 6))=true:=by kernel_rfl
theorem Bv:((Rows.sequencerPagesRow.recurses==Tryz.pinned.checked.prog.recurses 6))=true:=by kernel_rfl
theorem Bx:((Rows.sequencerPagesRow.named==Tryz.pinned.checked.prog.varsNamed 6))=true:=by kernel_rfl
theorem By:((Rows.sequencerPagesRow.maps==(Tryz.f6.params.toList++Rows.sequencerPagesSpec.plain.varTypes Tryz.pinned.checked.prog).any (Tryz.pinned.checked.prog.mapsRec ·)))=true:=by kernel_rfl
theorem Bz:((Rows.sequencerPagesRow.ifaces==(Tryz.f6.params.toList++Rows.sequencerPagesSpec.plain.varTypes Tryz.pinned.checked.prog).any (Tryz.pinned.checked.prog.ifacesRec ·)))=true:=by kernel_rfl
theorem BA:((Rows.sequencerPagesRow.mapsOut==Tryz.pinned.checked.prog.mapsAmong Tryz.f6.resultTypes.toList))=true:=by kernel_rfl
theorem BB:((Rows.sequencerPagesRow.loops==(Tryz.f6.params.toList++Rows.sequencerPagesSpec.plain.varTypes Tryz.pinned.checked.prog).any (Tryz.pinned.checked.prog.loopsFrom ·)))=true:=by kernel_rfl
theorem BD:((Rows.sequencerPagesRow.wideKeys==(Tryz.f6.params.toList++Rows.sequencerPagesSpec.plain.varTypes Tryz.pinned.checked.prog++Tryz.f6.resultTypes.toList).any (Tryz.pinned.checked.prog.wideKeysFrom ·)))=true:=by kernel_rfl
theorem BE:(Rows.sequencerPagesSpec.vars.all (Tryz.pinned.checked.prog.varReadable ·))=true:=by kernel_rfl
theorem BF:(Tryz.f6.resultTypes.all (λt=>Tryz.pinned.checked.prog.readableRec t&&decide (t<Tryz.pinned.checked.prog.types.size)))=true:=by kernel_rfl
theorem BG:((Rows.sequencerPagesRow.ifacesOut==Tryz.f6.resultTypes.toList.any (Tryz.pinned.checked.prog.ifacesRec ·)))=true:=by kernel_rfl
theorem BH:((Rows.sequencerPagesRow.loopsOut==Tryz.f6.resultTypes.toList.any (Tryz.pinned.checked.prog.loopsFrom ·)))=true:=by kernel_rfl
theorem BI:((Rows.sequencerPagesRow.plainKeys==Tryz.pinned.checked.prog.plainKeys))=true:=by kernel_rfl
theorem BJ:(Rows.sequencerPagesRow.shortTexts.isNone)=true:=by kernel_rfl
theorem BK:(Tryz.pinned.checked.prog.stopsHeard)=true:=by kernel_rfl
theorem BL:(Tryz.pinned.checked.prog.mayEnter)=true:=by kernel_rfl
theorem BM:((Rows.sequencerPagesRow.lifted==Tryz.pinned.checked.prog.liftsFinal))=true:=by kernel_rfl
theorem BN:((Tryz.pinned.checked.prog.make==some Rows.sequencerPagesRow.make))=true:=by kernel_rfl
theorem BO:((Rows.sequencerPagesRow.kinds==(if Rows.sequencerPagesRow.domain.isEmpty then [] else Tryz.f6.params.toList.map λt=>match Tryz.pinned.checked.prog.underlying t with | some (.int k)=>some k | _=>none)))=true:=by kernel_rfl
theorem BP:((Rows.sequencerPagesRow.pinned==Rows.sequencerPagesRow.pinnedBy))=true:=by kernel_rfl
theorem BQ:((Rows.sequencerPagesRow.veiled==(Tryz.f6.params.toList++Rows.sequencerPagesSpec.plain.varTypes Tryz.pinned.checked.prog++Tryz.f6.resultTypes.toList).any (Tryz.pinned.checked.prog.veiledRec ·)))=true:=by kernel_rfl
theorem BR:(Rows.sequencerPagesRow.veiledFits Tryz.pinned.checked.prog Tryz.f6.params.toList (Tryz.f6.params.toList++Rows.sequencerPagesSpec.plain.varTypes Tryz.pinned.checked.prog++Tryz.f6.resultTypes.toList))=true:=by kernel_rfl
set_option maxRecDepth 100000 in
theorem facts:joinedFacts Tryz.pinned.checked.prog 6 Tryz.f6 Rows.sequencerPagesSpec Rows.sequencerPagesRow=true:=by
 unfold joinedFacts;simp only [Bool.and_eq_true];exact ⟨⟨⟨⟨⟨⟨⟨⟨⟨⟨⟨⟨⟨⟨⟨⟨⟨⟨⟨⟨⟨⟨⟨⟨⟨⟨⟨⟨⟨⟨⟨Jo,Jp⟩,Jq⟩,Jr⟩,Jt⟩,Ju⟩,Jv⟩,Jw⟩,Jx⟩,Bt⟩,Bu⟩,Bv⟩,Bx⟩,By⟩,Bz⟩,BA⟩,BB⟩,BD⟩,BE⟩,BF⟩,BG⟩,BH⟩,BI⟩,BJ⟩,BK⟩,BL⟩,BM⟩,BN⟩,BO⟩,BP⟩,BQ⟩,BR⟩
end Go.Proofs.YteajeefphbjnmaaGreatDoor
namespace Go.Proofs.YteajeefphbjnmaaGreatDoor
open Go
theorem xo:Rows.SequencerPagesSaid:=
 OpenClaim.holds_of_wide 6 Tryz.f6 rfl rfl rfl rfl rfl rfl rfl ⟨rfl,rfl,rfl,rfl,rfl⟩ rfl rfl rfl rfl rfl (by kernel_rfl) Tryz.func6 facts
  (of_decide_eq_true (by kernel_rfl)) (by unfold Func.isWrapper;rw [if_neg (of_decide_eq_false (by kernel_rfl))];exact ⟨rfl,rfl⟩)
  (λos started H enc _=>Pa os started H enc)
end Go.Proofs.YteajeefphbjnmaaGreatDoor
namespace Go.Proofs.YteajeefphbjnmaaGreatDoor
open Go
theorem uh:Rows.sequencerPagesRow.wfByText (OpenSpec.ofChange Rows.sequencerPagesSpec)=true:=by kernel_rfl
theorem jE:Tryz.prog.funcNamed "blotter/blotterlaw14.SequencerPages" =some 6:=by kernel_rfl
theorem gW:([22,9].all λu=>!Tryz.prog.wantsStandIn u)=true:=by kernel_rfl
theorem me:false=Rows.sequencerPagesRow.goesBy Tryz.pinned.checked.prog:=kj rfl y9
end Go.Proofs.YteajeefphbjnmaaGreatDoor
