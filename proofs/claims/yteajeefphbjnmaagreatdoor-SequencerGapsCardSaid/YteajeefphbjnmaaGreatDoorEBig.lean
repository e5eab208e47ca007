/-
  The sequencer's laws. Part EBig of the proof: The laws of layer 14: a message, a number that come in; a list's weight.
-/
import Derived.Test.YteajeefphbjnmaaGreatDoorZBI
namespace K
open Go Go.Dx Go.RowKit Go.Proofs
theorem O3 {ρ:bE}{l:Lb}{off n:Nat}{cap:Cap}{x:Value}(h:RV ρ (.slice l off n cap) x):∃a c,x = .slice a n c:=by
 cases h<;>exact ⟨_,_,rfl⟩
theorem afe:Tryz.prog.bytesOf 43=120:=by kernel_rfl
theorem ahn {H:Type}{enc:TypeId×Value->H} {W:World} {N k:Nat} {v:Value} {x:DataW H×List MemPlace} {l:List Mi} (h:DataW.trod enc Tryz.prog W 0 (λ_=>true) true k 22 [v]=some x) (hw:∀n∈DataW.weights Tryz.prog 22 x.1,n<=reachBytes) (D:rz (kg W N) (zK (gI W N) v) l):l.length*120<=140737488351232:=by
 have hs:=D.sl;generalize ht:zK (gI W N) v=t at hs;generalize hn:l.length=n at hs ⊢;generalize Rx l=cs at hs;cases hs with
 | nil c=>omega
 | empty=>omega
 | row hg hr=>
   have hv:=xr (gI W N) v;rw [ht] at hv;obtain ⟨a,c,rfl⟩:=O3 hv;rcases Go.Deep.open_slice Tryz.underlying22 h with ⟨e,_⟩ | ⟨a',n',c',m,nn,D',Pl,e,hb,hle,wm,hm,hxx,dw⟩
   ·simp at e
    omega
   ·simp only [List.cons.injEq,Value.slice.injEq,and_true] at e
    obtain ⟨_,e2,e3⟩:=e;subst e2 e3;have hm:m=c:=by simpa using hm
    subst hm;have YM:((n+(m - n))*120)∈DataW.weights Tryz.prog 22 x.1:=by
     rw [hxx];unfold DataW.weights;rw [Tryz.underlying22];simp [afe]
    have:=hw _ YM;have e:reachBytes=140737488351232:=rfl;rw [e] at this;omega
theorem Xr (ρ:bE):∀xs:List Value,cU ρ (xs.map (zK ρ)) xs
 | []=>.nil
 | x::xs=>.cons (xr ρ x) (Xr ρ xs)
end K
namespace Go.Proofs.YteajeefphbjnmaaGreatDoor
open Go.ChangeShapes Go.WideShapes Go.ChangeAt Go.RowKit
theorem abD {P:Program}{w:World}{base:Nat}{t:TypeId}{fs:Array Field}{v:Value}(hs:P.underlying t=some (.struct fs))(hv:Value.okWide P w .any base t v):∃cs,v = .agg ⟨cs⟩:=by
 unfold Value.okWide at hv;rw [hs] at hv;obtain ⟨cs,h,_⟩:=hv;exact ⟨cs.toList,by rw [h]⟩
theorem abE {P:Program}{w:World}{base:Nat}{t:TypeId}{k:IntKind}{v:Value}(ht:P.underlying t=some (.int k))(h:Value.okWide P w .any base t v):v.cells.toList=[v]:=by
 unfold Value.okWide at h;rw [ht] at h;have h:Cell.okWide P w .any base t v:=h;unfold Cell.okWide Cell.ok at h;rw [ht] at h;cases v<;>first | rfl | simp at h
theorem abF {W:World}{l:List Value}{x:K.Mi}(X:K.amM (Dx.kg W (top W)) (Dx.gI W (top W)) l x):Dx.RV (Dx.gI W (top W)) (K.sc x.kind x.client x.from_ x.cookie x.last x.top x.lv) (.agg ⟨l⟩):=by
 have h:=K.Xr (Dx.gI W (top W)) l;rw [X.cells] at h;exact .agg h
end Go.Proofs.YteajeefphbjnmaaGreatDoor
