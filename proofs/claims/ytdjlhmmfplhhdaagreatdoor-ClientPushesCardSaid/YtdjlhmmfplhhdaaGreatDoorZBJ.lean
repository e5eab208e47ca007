/-
  The client's laws. Part ZBJ of the proof: The machine's runs of awake and of begun, in the kernel.
-/
import Derived.KernelRfl
import Derived.Deep.Slices
import Derived.DataElems
import Derived.ChangeArms
import Derived.Test.YtdjlhmmfplhhdaaGreatDoorRows
import Derived.ProofKit
import Derived.Carry
import Derived.LaidMore
import Derived.LaidHandle
import Derived.LaidLaws
import Derived.OpenShut
import Derived.ChangeSame
import Derived.ChangeVars
import Derived.JoinedOf
import Derived.RowKit
import Derived.RowKitTokens
import Derived.Stop.Joined
import Derived.SizedLaws
import Derived.DataReads
import Derived.Lay
import Derived.Lib.LaidU8
import Derived.Handed
import Derived.SevenTiedAt
import Derived.Test.YtdjlhmmfplhhdaaGreatDoorZBH
import Derived.Test.YtdjlhmmfplhhdaaGreatDoorZBI
import Derived.Test.YtdjlhmmfplhhdaaGreatDoorZBG
namespace KB
open Go Go.Dx Go.RowKit Go.Proofs
def ids:List (FuncId×Ext):=[(44,.aIo (pathOf 0) 226 (pathOf 7) 45 [(90,92,2)] [] []),(86,.typeOf 226 (pathOf 7) [48]),(367,.comparable (pathOf 7) [48]),(172,.nop),(173,.YY),(174,.nop),(175,.mark),(177,.mark),(178,.YZ),(244,.clone),(239,.same),(240,.WO 5),(251,.seq true 9 1 16 [210,245] []),(311,.seq false 55 2 32 [] [281]),(308,.compare),(317,.indexByte)]
noncomputable def fns:T br:=without (vS Tryz.prog 8 391) [251,311]
noncomputable def vV:jF:=adI Tryz.prog ids
theorem e86:bG Tryz.prog 86 Extern.ReflectliteType.typeOf:=⟨⟨_,Tryz.func86,by kernel_rfl,by kernel_rfl,by kernel_rfl,by kernel_rfl⟩⟩
theorem ayK:bG Tryz.prog 367 (Extern.ReflectliteType.method λt=>do Extern.Rtype.noPackHeld "Comparable" t;pure (.bool (<-typeInfo t).comparable)):=⟨⟨_,Tryz.func367,by kernel_rfl,by kernel_rfl,by kernel_rfl,by kernel_rfl⟩⟩
theorem ayL:bG Tryz.prog 317 Extern.BytealgIndexByte.indexByte:=⟨⟨_,Tryz.func317,by kernel_rfl,by kernel_rfl,by kernel_rfl,by kernel_rfl⟩⟩
theorem ayM:bG Tryz.prog 172 (λ_=>do mark .disable;pure Extern.Race.none_):=⟨⟨_,Tryz.func172,by kernel_rfl,by kernel_rfl,by kernel_rfl,by kernel_rfl⟩⟩
theorem ayN:bG Tryz.prog 173 (Extern.Atomic.casT (.int .i32)):=⟨⟨_,Tryz.func173,by kernel_rfl,by kernel_rfl,by kernel_rfl,by kernel_rfl⟩⟩
theorem ayO:bG Tryz.prog 174 (λ_=>do mark .enable;pure Extern.Race.none_):=⟨⟨_,Tryz.func174,by kernel_rfl,by kernel_rfl,by kernel_rfl,by kernel_rfl⟩⟩
theorem ayP:bG Tryz.prog 175 (Extern.Race.marked .acquire):=⟨⟨_,Tryz.func175,by kernel_rfl,by kernel_rfl,by kernel_rfl,by kernel_rfl⟩⟩
theorem ayQ:bG Tryz.prog 177 (Extern.Race.marked .releaseMerge):=⟨⟨_,Tryz.func177,by kernel_rfl,by kernel_rfl,by kernel_rfl,by kernel_rfl⟩⟩
theorem ayR:bG Tryz.prog 178 (Extern.Atomic.update (Op.intArith .add) .i32 true):=⟨⟨_,Tryz.func178,by kernel_rfl,by kernel_rfl,by kernel_rfl,by kernel_rfl⟩⟩
theorem ayS:bG Tryz.prog 244 Extern.MapsClone.clone:=⟨⟨_,Tryz.func244,by kernel_rfl,by kernel_rfl,by kernel_rfl,by kernel_rfl⟩⟩
theorem ayT:bG Tryz.prog 239 Extern.AbiNoEscape.same:=⟨⟨_,Tryz.func239,by kernel_rfl,by kernel_rfl,by kernel_rfl,by kernel_rfl⟩⟩
theorem ayU:bG Tryz.prog 240 (Extern.BytealgMakeNoZero.makeNoZero Tryz.f240.params #[144]):=⟨⟨_,Tryz.func240,by kernel_rfl,by kernel_rfl,by kernel_rfl,by kernel_rfl⟩⟩
theorem ayV:bG Tryz.prog 308 Extern.BytealgCompare.compare:=⟨⟨_,Tryz.func308,by kernel_rfl,by kernel_rfl,by kernel_rfl,by kernel_rfl⟩⟩
theorem arN (w:World):(cutType "internal/reflectlite.rtype").run Tryz.prog w = .ok 226 w:=by kernel_rfl
theorem Sn (i:TypeInfo)(hi:Tryz.prog.info? 48=some i)(w:World):
  (Extern.ReflectliteType.method (λt=>do Extern.Rtype.noPackHeld "Comparable" t;pure (.bool (<-typeInfo t).comparable)) #[.agg #[.pointer (some ⟨7,48,none⟩)]]).run Tryz.prog w = .ok (.bool i.comparable) w:=by
 have h:(Extern.ReflectliteType.method (λt=>do Extern.Rtype.noPackHeld "Comparable" t;pure (.bool (<-typeInfo t).comparable)) #[.agg #[.pointer (some ⟨7,48,none⟩)]]).run Tryz.prog w = .ok (.bool true) w:=by kernel_rfl
 have a:(Tryz.prog.info? 48).map (·.comparable)=some true:=by kernel_rfl
 rw [hi] at a;have h3:i.comparable=true:=Option.some.inj a;rw [h,h3]
theorem aih:nQ Tryz.prog 8 vV:=by
 refine akx λp b=>?_;simp only [ids,List.mem_cons,List.not_mem_nil,or_false] at b;rcases b with rfl | rfl | rfl | rfl | rfl | rfl | rfl | rfl | rfl | rfl | rfl | rfl | rfl | rfl | rfl | rfl
 ·exact abT (by decide)
 ·exact Jw (g:=7) (G:=8) (by decide) (by kernel_rfl) e86 arN
 ·exact xK (g:=7) (G:=8) (ts:=[48]) (by decide) (by decide) ayK λt a i hi w=>by
   rw [List.mem_singleton] at a;subst a;exact Sn i hi w
 ·exact Ai ayM
 ·exact OY ayN
 ·exact Ai ayO
 ·exact En ayP
 ·exact En ayQ
 ·exact OW ayR
 ·exact aaz ayS
 ·exact Ub ayT
 ·exact WR (t:=144) (by kernel_rfl) ayU
 ·exact Yf
 ·exact Yg
 ·exact HK ayV
 ·exact BG ayL
def cB (room:V):List (Lb×Go.Dx.Obj):=[(bw 9,.map [] 0),(bw 10,.map [] 0),(bw 11,.cells [room,.map (bw 21),.map (bw 9),.nilSlice 0,.map (bw 10)] 105 0 .yes),(bw 18,.cells [.ptr (bw 11) 0,.nilSlice 0,.nilSlice 0,.int .i64 1] 211 0 .yes),(bw 21,.map [] 0),(bw 23,.map [] 0),(bw 25,.cells [.int .i32 0,.int .u32 0,.ptr (bw 18) 0,.map (bw 23),.int .i64 0,.int .i64 0] 142 0 .yes),(bw 27,.map [] 0),(bw 28,.cells [.str [99,49],.ptr (bw 25) 0,.nilSlice 0,.map (bw 27),.nilSlice 0,.nilSlice 0,.nilSlice 0] 76 0 .yes)]
def afX:V:=.tuple [.ptr (bw 11) 0,.ptr (bw 28) 0,.bool true]
def VA (h:H):List (Lb×Go.Dx.Obj)->Bool
 | []=>true
 | (l,o)::r=>holds h l o&&Nat.blt (val l) (val h.next)&&VA h r
def Jt (room:V):Option (V×H)->Bool
 | some (v,h)=>ti v afX&&VA h (cB room)
 | none=>false
def isTrue:Option (V×H)->Bool
 | some (.bool true,_)=>true
 | _=>false
noncomputable def call:jF:=(K.Vz (dq Tryz.prog) fns vV Yc 3000).call
def hand (e a:Nat):List (Lb×Go.Dx.Obj):=[(bw 0,.cells [.iface 226 (.agg [.ptr (bw 7) 45])] e a .no)]
theorem ab4 (e a:Nat):isTrue (call 8 [] {t:=ofL (hand e a),next:=bw 8})=true:=by kernel_rfl
theorem ab5:Jt (.int .i64 16777216) (call 9 [.int .i64 16777216] {t:=ofL [],next:=bw 8})=true:=by kernel_rfl
theorem V7:Jt (.eG 0 1048575) (call 9 [.eG 0 1048575] {t:=ofL [],next:=bw 8})=true:=by kernel_rfl
theorem mixed:Tryz.prog.follows .mixedOrders=true:=by kernel_rfl
theorem DD:nQ Tryz.prog 8 call:=by
 unfold call;rw [K.afW];exact WL mixed aih abS (ab3 (by decide) _) 3000
theorem FR {h:H}:∀{l:List (Lb×Go.Dx.Obj)},VA h l=true->∀p∈l,h.get p.1=some p.2/\val p.1<val h.next
 | [],_,p,a=>by cases a
 | (l,o)::r,hb,p,a=>by
   simp only [VA,Bool.and_eq_true] at hb;rcases List.mem_cons.1 a with rfl | a
   ·exact ⟨afF hb.1.1,by simpa using hb.1.2⟩
   ·exact FR hb.2 p a
end KB
namespace K
open Go Go.Dx Go.RowKit Go.Proofs
set_option maxRecDepth 100000
variable{h:H}{s:Nat->Lb}
theorem ab6 {r:Option (V×H)}(h:KB.isTrue r=true):∃h',r=some (.bool true,h'):=by
 unfold KB.isTrue at h;split at h
 ·exact ⟨_,rfl⟩
 ·cases h
theorem Jy {room:V}{r:Option (V×H)}(h:KB.Jt room r=true):∃h',r=some (KB.afX,h')/\KB.VA h' (KB.cB room)=true:=by
 unfold KB.Jt at h;split at h
 ·simp only [Bool.and_eq_true] at h
  exact ⟨_,by rw [Cm h.1],h.2⟩
 ·cases h
theorem SQ (g:Nat)(a:g<8):bw g=pathOf g:=by
 have:∀g<8,bw g=pathOf g:=by decide
 exact this g a
theorem VB {Q:V->H->Prop} (j:Wf h) (k:HE h) (f:∀h',Mod h h' []->Wf h'->Q (.bool true) h'):CW pf G0 nZ [] h Q:=by
 obtain ⟨e,b,g⟩:=k.out;obtain ⟨c,i⟩:=ab6 (KB.ab4 e b);refine CW.V8 (pf:=pf) (G:=8) (outs:=[]) (gl:=KB.hand e b) (v:=.bool true) KB.DD SQ i rfl (λl o a=>?_) (λp n=>by cases n) (by simp) rfl j λm s _ _ _ a d=>f m a d;simp only [KB.hand,List.mem_cons,List.not_mem_nil,or_false,Prod.mk.injEq] at a;obtain ⟨rfl,rfl⟩:=a;exact ⟨by decide,by decide,by rw [SQ 0 (by decide),SQ 7 (by decide)];exact g,_,_,_,rfl,rfl⟩
def cz0 (room:Int)(s:Nat->Lb):Cz:=⟨⟨[99,49],s 25,.nilSlice 0,s 27,.nilSlice 0,.nilSlice 0,.nilSlice 0,[],[],0,[],[],[]⟩,⟨s 18,s 23,[],0,0,0⟩,⟨s 11,.nilSlice 0,.nilSlice 0,[],[],[],1⟩,⟨room,s 21,s 9,s 10,[],[],0,0,0,.nilSlice 0,[],[],[]⟩⟩
theorem acI {room:Int}  (_hr0:0<=room) (_hr1:room<=16777216)
  (z:h.get (s 9)=some (.map [] 0))
  (m:h.get (s 10)=some (.map [] 0))
  (n:h.get (s 11)=some (.cells [.int .i64 room,.map (s 21),.map (s 9),.nilSlice 0,.map (s 10)] 105 0 .yes))
  (v:h.get (s 18)=some (.cells [.ptr (s 11) 0,.nilSlice 0,.nilSlice 0,.int .i64 1] 211 0 .yes))
  (g:h.get (s 21)=some (.map [] 0))
  (r:h.get (s 23)=some (.map [] 0))
  (u:h.get (s 25)=some (.cells [.int .i32 0,.int .u32 0,.ptr (s 18) 0,.map (s 23),.int .i64 0,.int .i64 0] 142 0 .yes))
  (t:h.get (s 27)=some (.map [] 0))
  (o:h.get (s 28)=some (.cells [.str [99,49],.ptr (s 25) 0,.nilSlice 0,.map (s 27),.nilSlice 0,.nilSlice 0,.nilSlice 0] 76 0 .yes))
  (ne:∀i∈[9,10,11,18,21,23,25,27,28],∀j∈[9,10,11,18,21,23,25,27,28],i≠j->s i≠s j):js h (s 28) (cz0 room s) 0 0:=by
 have D:bF h (s 11) ⟨room,s 21,s 9,s 10,[],[],0,0,0,.nilSlice 0,[],[],[]⟩:=by
  refine ⟨n,⟨g,fS.nil 0,by simp,by simp⟩,⟨z,fS.nil 0,by simp,by simp⟩,.nil,.nil,by simp,m,fS.nil 0,by simp,?_,?_,?_,by simp⟩
  ·exact ne 21 (by simp) 9 (by simp) (by decide)
  ·exact ne 21 (by simp) 10 (by simp) (by decide)
  ·exact ne 9 (by simp) 10 (by simp) (by decide)
 have L:jq h (s 18) ⟨s 11,.nilSlice 0,.nilSlice 0,[],[],[],1⟩:=⟨v,.nil,.nil,.nil⟩;have y:iw ⟨s 11,.nilSlice 0,.nilSlice 0,[],[],[],1⟩ ⟨room,s 21,s 9,s 10,[],[],0,0,0,.nilSlice 0,[],[],[]⟩:=
  ⟨by simp,by simp,by dsimp only;omega,by dsimp only;omega,.nil,by simp,by simp,by simp,λk _=>rfl,by simp,λ_=>rfl⟩
 have down:ei.own ⟨room,s 21,s 9,s 10,[],[],0,0,0,.nilSlice 0,[],[],[]⟩ (s 11)=[s 11,s 21,s 9,s 10]:=rfl;have S:fc h (s 25) ⟨s 18,s 23,[],0,0,0⟩ ⟨s 11,.nilSlice 0,.nilSlice 0,[],[],[],1⟩ ⟨room,s 21,s 9,s 10,[],[],0,0,0,.nilSlice 0,[],[],[]⟩:=by
  refine ⟨u,r,fS.nil 0,by simp,L,D,y,λd=>?_⟩;dsimp only at d;rw [down] at d;simp only [List.mem_cons,List.not_mem_nil,or_false] at d;rcases d with e | e | e | e
  ·exact ne 23 (by simp) 11 (by simp) (by decide) e
  ·exact ne 23 (by simp) 21 (by simp) (by decide) e
  ·exact ne 23 (by simp) 9 (by simp) (by decide) e
  ·exact ne 23 (by simp) 10 (by simp) (by decide) e
 have l:isName [99,49]:=⟨λc w=>by simp at w;unfold kO;omega,by simp,by simp⟩;have V:eI h (s 28) ⟨[99,49],s 25,.nilSlice 0,s 27,.nilSlice 0,.nilSlice 0,.nilSlice 0,[],[],0,[],[],[]⟩:=
  ⟨o,.nil,.nil,.nil,.nil,t,fS.nil 0,by simp,λc=>rfl,λi x h=>by simp at h,by simp,by simp,by simp,by simp,by simp,by simp,by simp,by simp,l,by simp [ag]⟩
 have f:pq.own ⟨[99,49],s 25,.nilSlice 0,s 27,.nilSlice 0,.nilSlice 0,.nilSlice 0,[],[],0,[],[],[]⟩ (s 28)=[s 28,s 27]:=rfl;have p:xB.own ⟨s 18,s 23,[],0,0,0⟩ (s 25) ⟨s 11,.nilSlice 0,.nilSlice 0,[],[],[],1⟩ ⟨room,s 21,s 9,s 10,[],[],0,0,0,.nilSlice 0,[],[],[]⟩=[s 25,s 23,s 18,s 11,s 21,s 9,s 10]:=rfl;refine ⟨V,S,λq b a=>?_,λk=>rfl,by simp [cz0],by simp [cz0],by dsimp only [cz0];omega,by dsimp only [cz0];omega,by dsimp only [cz0];omega,by simp [cz0]⟩;dsimp only [cz0] at b a;rw [f] at b;rw [p] at a;simp only [List.mem_cons,List.not_mem_nil,or_false] at b a;rcases b with rfl | rfl
 ·rcases a with e | e | e | e | e | e | e
  ·exact ne 28 (by simp) 25 (by simp) (by decide) e
  ·exact ne 28 (by simp) 23 (by simp) (by decide) e
  ·exact ne 28 (by simp) 18 (by simp) (by decide) e
  ·exact ne 28 (by simp) 11 (by simp) (by decide) e
  ·exact ne 28 (by simp) 21 (by simp) (by decide) e
  ·exact ne 28 (by simp) 9 (by simp) (by decide) e
  ·exact ne 28 (by simp) 10 (by simp) (by decide) e
 ·rcases a with e | e | e | e | e | e | e
  ·exact ne 27 (by simp) 25 (by simp) (by decide) e
  ·exact ne 27 (by simp) 23 (by simp) (by decide) e
  ·exact ne 27 (by simp) 18 (by simp) (by decide) e
  ·exact ne 27 (by simp) 11 (by simp) (by decide) e
  ·exact ne 27 (by simp) 21 (by simp) (by decide) e
  ·exact ne 27 (by simp) 9 (by simp) (by decide) e
  ·exact ne 27 (by simp) 10 (by simp) (by decide) e
theorem YA {room:Int}  (a:∀i∈[9,10,11,18,21,23,25,27,28],h.get (s i)=none):∀q,q∈(cz0 room s).own (s 28)->h.get q=none:=λq b=>by
 have d:pq.own ⟨[99,49],s 25,.nilSlice 0,s 27,.nilSlice 0,.nilSlice 0,.nilSlice 0,[],[],0,[],[],[]⟩ (s 28)=[s 28,s 27]:=rfl;have c:xB.own ⟨s 18,s 23,[],0,0,0⟩ (s 25) ⟨s 11,.nilSlice 0,.nilSlice 0,[],[],[],1⟩ ⟨room,s 21,s 9,s 10,[],[],0,0,0,.nilSlice 0,[],[],[]⟩=[s 25,s 23,s 18,s 11,s 21,s 9,s 10]:=rfl;unfold Cz.own at b;dsimp only [cz0] at b;rw [d,c] at b;simp only [List.mem_cons,List.mem_append,List.not_mem_nil,or_false] at b;rcases b with (e | e) | e | e | e | e | e | e | e<;>rw [e]
 ·exact a 28 (by simp)
 ·exact a 27 (by simp)
 ·exact a 25 (by simp)
 ·exact a 23 (by simp)
 ·exact a 18 (by simp)
 ·exact a 11 (by simp)
 ·exact a 21 (by simp)
 ·exact a 9 (by simp)
 ·exact a 10 (by simp)
theorem VC {Q:V->H->Prop} (C:Wf h) (I:∀h' ld lp z,js h' lp z 0 0->z.r.nm=[99,49]->z.r.base=[]->z.r.wait=[]->z.g.ld=ld->(∀q,q∈z.own lp->h.get q=none)->Mod h h' []->Wf h'->Q (.tuple [.ptr ld 0,.ptr lp 0,.bool true]) h'):CW pf G0 iD [.int .i64 16777216] h Q:=by
 obtain ⟨E,O,B⟩:=Jy KB.ab5;have D:∀p∈KB.cB (.int .i64 16777216),8<=val p.1/\p.1=bw (val p.1)/\P3 p.2=true:=λp c=>by
  simp only [KB.cB,List.mem_cons,List.not_mem_nil,or_false] at c;rcases c with rfl | rfl | rfl | rfl | rfl | rfl | rfl | rfl | rfl<;>exact ⟨by decide,by decide,by decide⟩
 refine CW.V8 (pf:=pf) (G:=8) (outs:=KB.cB (.int .i64 16777216)) (gl:=[]) KB.DD SQ O rfl (λl o w=>by cases w) (λp c=>?_) (by decide) rfl C λa s b M hinj w N=>?_
 ·obtain ⟨a1,a2⟩:=KB.FR B p c
  obtain ⟨A,P,J⟩:=D p c;exact ⟨a1,A,a2,P,J⟩
 have K:a.get (s (bw 9))=some (.map [] 0):=b ((KB.cB (.int .i64 16777216))[0]'(by decide)) (List.getElem_mem _);have k:a.get (s (bw 10))=some (.map [] 0):=b ((KB.cB (.int .i64 16777216))[1]'(by decide)) (List.getElem_mem _);have m:a.get (s (bw 11))=some (.cells [.int .i64 16777216,.map (s (bw 21)),.map (s (bw 9)),.nilSlice 0,.map (s (bw 10))] 105 0 .yes):=b ((KB.cB (.int .i64 16777216))[2]'(by decide)) (List.getElem_mem _);have x:a.get (s (bw 18))=some (.cells [.ptr (s (bw 11)) 0,.nilSlice 0,.nilSlice 0,.int .i64 1] 211 0 .yes):=b ((KB.cB (.int .i64 16777216))[3]'(by decide)) (List.getElem_mem _);have f:a.get (s (bw 21))=some (.map [] 0):=b ((KB.cB (.int .i64 16777216))[4]'(by decide)) (List.getElem_mem _);have t:a.get (s (bw 23))=some (.map [] 0):=b ((KB.cB (.int .i64 16777216))[5]'(by decide)) (List.getElem_mem _);have v:a.get (s (bw 25))=some (.cells [.int .i32 0,.int .u32 0,.ptr (s (bw 18)) 0,.map (s (bw 23)),.int .i64 0,.int .i64 0] 142 0 .yes):=b ((KB.cB (.int .i64 16777216))[6]'(by decide)) (List.getElem_mem _);have u:a.get (s (bw 27))=some (.map [] 0):=b ((KB.cB (.int .i64 16777216))[7]'(by decide)) (List.getElem_mem _);have r:a.get (s (bw 28))=some (.cells [.str [99,49],.ptr (s (bw 25)) 0,.nilSlice 0,.map (s (bw 27)),.nilSlice 0,.nilSlice 0,.nilSlice 0] 76 0 .yes):=b ((KB.cB (.int .i64 16777216))[8]'(by decide)) (List.getElem_mem _);have at_:∀i∈[9,10,11,18,21,23,25,27,28],∃p∈KB.cB (.int .i64 16777216),p.1=bw i:=λi hi=>by
  simp only [List.mem_cons,List.not_mem_nil,or_false] at hi;rcases hi with rfl | rfl | rfl | rfl | rfl | rfl | rfl | rfl | rfl
  ·exact ⟨(KB.cB (.int .i64 16777216))[0]'(by decide),List.getElem_mem _,rfl⟩
  ·exact ⟨(KB.cB (.int .i64 16777216))[1]'(by decide),List.getElem_mem _,rfl⟩
  ·exact ⟨(KB.cB (.int .i64 16777216))[2]'(by decide),List.getElem_mem _,rfl⟩
  ·exact ⟨(KB.cB (.int .i64 16777216))[3]'(by decide),List.getElem_mem _,rfl⟩
  ·exact ⟨(KB.cB (.int .i64 16777216))[4]'(by decide),List.getElem_mem _,rfl⟩
  ·exact ⟨(KB.cB (.int .i64 16777216))[5]'(by decide),List.getElem_mem _,rfl⟩
  ·exact ⟨(KB.cB (.int .i64 16777216))[6]'(by decide),List.getElem_mem _,rfl⟩
  ·exact ⟨(KB.cB (.int .i64 16777216))[7]'(by decide),List.getElem_mem _,rfl⟩
  ·exact ⟨(KB.cB (.int .i64 16777216))[8]'(by decide),List.getElem_mem _,rfl⟩
 have ne:∀i∈[9,10,11,18,21,23,25,27,28],∀j∈[9,10,11,18,21,23,25,27,28],i≠j->s (bw i)≠s (bw j):=λi hi j R S e=>by
  obtain ⟨p,g,d⟩:=at_ i hi
  obtain ⟨q,F,y⟩:=at_ j R
  have:=hinj p g q F (by rw [d,y];exact e);rw [d,y] at this;exact S (P4 this)
 have L:∀i∈[9,10,11,18,21,23,25,27,28],h.get (s (bw i))=none:=λi hi=>by
  obtain ⟨p,g,d⟩:=at_ i hi
  rw [<-d];exact M p g
 exact I a (s (bw 11)) (s (bw 28)) (cz0 16777216 λn=>s (bw n)) (acI (s:=λn=>s (bw n)) (by omega) (by omega) K k m x f t v u r ne) rfl rfl rfl rfl (YA (s:=λn=>s (bw n)) L) w N
theorem acQ:Jv:=⟨λb c a=>VB b c a,λb a=>VC b a⟩
end K
namespace Go.Dx
open Go Go.RowKit
variable{k n:Nat}
theorem Yr (ρ:bD):∀xs:List Value,(∀x∈xs,∃v,RV ρ v x)->∃vs,cZ ρ vs xs
 | [],_=>⟨[],.nil⟩
 | x::xs,h=>by
   obtain ⟨v,b⟩:=h x (by simp);obtain ⟨vs,a⟩:=Yr ρ xs λy hy=>h y (by simp [hy]);exact ⟨v::vs,.cons b a⟩
theorem ZK (ρ:bD):∀x:Value,∃v,RV ρ v x
 | .bool b=>⟨_,.bool b⟩
 | .nilFunc=>⟨_,.nilFunc⟩
 | .agg ⟨xs⟩=>by
   obtain ⟨vs,d⟩:=Yr ρ xs λx e=>ZK ρ x;exact ⟨_,.agg d⟩
 | .tuple ⟨xs⟩=>by
   obtain ⟨vs,d⟩:=Yr ρ xs λx e=>ZK ρ x;exact ⟨_,.tuple d⟩
 | .int k n=>⟨.any,.any rfl⟩
 | .float k n=>⟨.any,.any rfl⟩
 | .complex k a b=>⟨.any,.any rfl⟩
 | .string s=>⟨.any,.any rfl⟩
 | .pointer a=>⟨.any,.any rfl⟩
 | .slice a n c=>⟨.any,.any rfl⟩
 | .map r=>⟨.any,.any rfl⟩
 | .chan r=>⟨.any,.any rfl⟩
 | .func f a b=>⟨.any,.any rfl⟩
 | .iface t v=>⟨.any,.any rfl⟩
 | .nilIface=>⟨.any,.any rfl⟩
 termination_by x=>SizeOf.sizeOf x
 decreasing_by
 all_goals
  have:=List.sizeOf_lt_of_mem e;simp only [Value.agg.sizeOf_spec,Value.tuple.sizeOf_spec,Array.mk.sizeOf_spec];omega
def amZ:Value->Option V
 | .int k n=>some (.int k n)
 | .string t=>some (.str (au t))
 | .slice none 0 c=>some (.nilSlice c)
 | .slice (some _) 0 _=>some .empty
 | .slice (some ⟨b,off,none⟩) n c=>some (.slice (bw b) off n (.exact c))
 | .iface t (.agg ⟨[.pointer (some ⟨b,off,none⟩)]⟩)=>some (.iface t (.agg [.ptr (bw b) off]))
 | _=>none
open Classical in
noncomputable def Ax (ρ:bD) (x:Value):V:=if h:∃v,amZ x=some v/\RV ρ v x then Classical.choose h else Classical.choose (ZK ρ x)
theorem B5 (ρ:bD)(x:Value):RV ρ (Ax ρ x) x:=by
 unfold Ax;split
 ·rename_i h;exact (Classical.choose_spec h).2
 ·exact Classical.choose_spec (ZK ρ x)
theorem uD {ρ:bD}{x:Value}{v:V}(a:amZ x=some v)(b:RV ρ v x):Ax ρ x=v:=by
 have h:∃v,amZ x=some v/\RV ρ v x:=⟨v,a,b⟩;unfold Ax;rw [dif_pos h];have:=a.symm.trans (Classical.choose_spec h).1;exact (Option.some.inj this).symm
theorem Sp (ρ:bD)(k:IntKind)(n:Int):Ax ρ (.int k n) = .int k n:=uD rfl (.int k n)
theorem Sq (ρ:bD)(t:ByteArray):Ax ρ (.string t) = .str (au t):=uD rfl (.str t)
theorem Ju (ρ:bD)(c:Nat):Ax ρ (.slice none 0 c) = .nilSlice c:=uD rfl (.nilSlice c)
theorem ab7 (ρ:bD)(a:Addr)(c:Nat):Ax ρ (.slice (some a) 0 c) = .empty:=uD rfl (.empty a c)
section
variable (w:World) (N:Nat)
def afY (k:Nat):Nat:=match w.shape? k with | some (_,n)=>n | none=>0
def gF:bD:=λl=>if val l<N/\l=bw (val l) then some (ej.mk (val l) 0 (afY w (val l)) .nilFunc) else none
noncomputable def ab8 (k:Nat):Option Obj:=match w.heap[k]? with
 | some (.cells c t _)=>some (.cells (c.toList.map (Ax (gF w N))) t 0 .no)
 | _=>none
def MK (f:Nat->Option Obj):Nat->T Obj
 | 0=>.leaf
 | n+1=>(MK f n).set (bw n) (f n)
noncomputable def kN:H:={t:=MK (ab8 w N) N,next:=bw N}
end
section
variable {w:World} {N:Nat}
theorem Sr (a:k<N):gF w N (bw k)=some (ej.mk k 0 (afY w k) .nilFunc):=by
 unfold gF;rw [ff,if_pos ⟨a,rfl⟩]
theorem zP {l:Lb}{b:ej}(h:gF w N l=some b):val l<N/\l=bw (val l)/\b=ej.mk (val l) 0 (afY w (val l)) .nilFunc:=by
 unfold gF at h;split at h
 ·rename_i c;cases h;exact ⟨c.1,c.2,rfl⟩
 ·cases h
theorem PV {f:Nat->Option Obj} {k:Nat}:∀{n:Nat},k<n->(MK f n).get (bw k)=f k
 | 0,h=>by omega
 | n+1,h=>by
   simp only [MK]
   by_cases e:k=n
   ·subst e;rw [T.aY]
   ·rw [T.bh _ _ _ _ (λa=>e (P4 a).symm)]
    exact PV (by omega)
theorem Av {f:Nat->Option Obj} {l:Lb} {o:Obj}:∀{n:Nat},(MK f n).get l=some o->∃k,k<n/\l=bw k/\f k=some o
 | 0,h=>by simp [MK,T.kW] at h
 | n+1,h=>by
   simp only [MK] at h
   by_cases e:bw n=l
   ·rw [e,T.aY] at h
    exact ⟨n,by omega,e.symm,h⟩
   ·rw [T.bh _ _ _ _ e] at h
    obtain ⟨k,a,b,c⟩:=Av h;exact ⟨k,by omega,b,c⟩
theorem PW (a:k<N):(kN w N).get (bw k)=ab8 w N k:=PV a
theorem JK:Wf (kN w N):=λl c=>by
 obtain ⟨o,d⟩:=Option.isSome_iff_exists.1 c;obtain ⟨k,a,b,_⟩:=Av d;show val l<val (bw N)
 rw [b,ff,ff];exact a
theorem ML {c:Array Value}{t:TypeId}{a:Nat×Nat}(h:w.heap[k]? =some (.cells c t a)):ab8 w N k=some (.cells (c.toList.map (Ax (gF w N))) t 0 .no):=by
 unfold ab8;rw [h]
theorem VD {o:Obj}(h:ab8 w N k=some o):∃c t a,w.heap[k]? =some (.cells c t a)/\o = .cells (c.toList.map (Ax (gF w N))) t 0 .no:=by
 unfold ab8 at h;split at h
 ·rename_i c t a e;cases h;exact ⟨c,t,a,e,rfl⟩
 ·cases h
theorem ab9 (_hN:w.heap.size<=N):aA w.heap.size w (gF w N) (kN w N) w:=by
 refine ⟨λl b o d j=>?_,λl b d=>?_,λl b d=>?_,λl m b c d r z y e=>?_,λl b o d j s=>?_,Nat.le_refl _,Below.refl _ _⟩
 ·obtain ⟨k,a1,rfl,n⟩:=Av j
  obtain ⟨_,_,rfl⟩:=zP d;obtain ⟨c,t,u,p,rfl⟩:=VD n;rw [ff];have Hl:w.shape? k=some (t,c.size):=by unfold World.shape?;rw [p]
  have f:afY w k=c.size:=by unfold afY;rw [Hl]
  refine ⟨by rw [f];exact Hl,by rw [f];simp,λi v g=>?_,(λh=>by cases h),(λh=>by cases h)⟩;rw [List.getElem?_map] at g;cases hx:c.toList[i]? with
  | none=>rw [hx] at g;cases g
  | some x=>
    rw [hx] at g;cases g;refine ⟨x,?_,B5 _ x⟩;unfold cQ World.cell?;simp only [p,Nat.zero_add];simpa using hx
 ·show val l<val (bw N)
  rw [ff];exact (zP d).1
 ·obtain ⟨_,_,rfl⟩:=zP d
  exact ⟨rfl,.nil rfl⟩
 ·obtain ⟨_,a,rfl⟩:=zP d
  obtain ⟨_,q,rfl⟩:=zP r;have e:val l=val m:=e;rw [a,q,e]
 ·obtain ⟨k,_,rfl,n⟩:=Av j
  obtain ⟨c,t,u,_,rfl⟩:=VD n;cases s
theorem ab' {G:Nat}(b:∀g,g<G->bw g=pathOf g) (c:G<=N):gM (gF w N) G:=λg a=>⟨_,by rw [<-b g a];exact Sr (by omega)⟩
theorem VE:∀(n:Nat) (vs:List V),n<=vs.length->∃r,takeN n vs=some r
 | 0,vs,_=>⟨[],by simp [takeN]⟩
 | n+1,[],h=>by simp at h
 | n+1,v::vs,h=>by
   obtain ⟨r,a⟩:=VE n vs (by simpa using h);exact ⟨v::r,by simp [takeN,a,ob]⟩
theorem Ys {vs cs:List V}{off:Nat}(c:cs.length=n)(b:n=0\/off+n<=vs.length)(h:∀j,j<n->vs[off+j]? =cs[j]?):rowFrom vs off n=some cs:=by
 obtain ⟨r,a⟩:=VE n (bz off vs) (by rw [gn];omega);have Co:rowFrom vs off n=some r:=a;obtain ⟨d,_,h3⟩:=r9 Co;rw [Co]
 congr 1
 apply List.ext_getElem?;intro j
 by_cases hj:j<n
 ·rw [h3 j hj,h j hj]
 ·rw [List.getElem?_eq_none (by omega),List.getElem?_eq_none (by omega)]
theorem slI {a:Addr}{c size:Nat}{xs:List Value}(h0:0<size)(F:w.heap.size<=N)(b:xs.length=n*size)(z:∀k,k<n*size->w.cell? (a.add k)=xs[k]?):
  Sl (kN w N) size (Ax (gF w N) (.slice (some a) n c)) n (xs.map (Ax (gF w N)))/\∀q,q∈ag (Ax (gF w N) (.slice (some a) n c))->(kN w N).get q≠none:=by
 cases n with
 | zero=>
   have:xs=[]:=by cases xs with | nil=>rfl | cons x r=>simp at b
   subst this;rw [ab7];exact ⟨.empty,λq i=>by simp [ag] at i⟩
 | succ n=>
   have Qr:0<(n+1)*size:=Nat.mul_pos (by omega) h0;obtain ⟨ab,g,f⟩:=a;have u:f=none:=by
    have e:=z 0 Qr;rw [List.getElem?_eq_getElem (by omega)] at e;cases f with
    | none=>rfl
    | some sp=>
      exfalso;unfold World.cell? at e;split at e
      ·split at e
       ·cases e
       ·rename_i hs
        exact hs (by simp [Addr.add])
      ·cases e
   subst u;have s:∀k,k<(n+1)*size->∃c t l x,w.heap[ab]? =some (.cells c t l)/\c[g+k]? =some x/\xs[k]? =some x:=λk B=>by
    have e:=z k B;rw [List.getElem?_eq_getElem (by omega),dk] at e;unfold World.cell? at e;dsimp only at e;split at e
    ·rename_i c t l d
     split at e
     ·cases e
     ·exact ⟨c,t,l,_,d,e,by rw [List.getElem?_eq_getElem (by omega)]⟩
    ·cases e
   obtain ⟨h,t,l,G,d,_,_⟩:=s 0 Qr;have y:ab<N:=Nat.lt_of_lt_of_le (nB d) F;have A:Ax (gF w N) (.slice (some ⟨ab,g,none⟩) (n+1) c) = .slice (bw ab) g (n+1) (.exact c):=by
    refine uD rfl ?_;have:=RV.slice (ρ:=gF w N) g (n+1) c (Sr (w:=w) y);rw [Nat.zero_add] at this;exact this
   rw [A];have v:(kN w N).get (bw ab)=some (.cells (h.toList.map (Ax (gF w N))) t 0 .no):=by rw [PW y];exact ML d
   refine ⟨.row v (Ys (by rw [List.length_map];exact b) (.inr ?_) λj D=>?_),λq i=>?_⟩
   ·obtain ⟨m,C,p,x,FA,o,_⟩:=s ((n+1)*size - 1) (by omega)
    rw [d] at FA;cases FA;have:=(Array.getElem?_eq_some_iff.1 o).1;simp;omega
   ·obtain ⟨m,C,p,x,FA,o,E⟩:=s j D
    rw [d] at FA;cases FA;rw [List.getElem?_map,List.getElem?_map,E];have:h.toList[g+j]? =some x:=by simpa using o
    rw [this]
   ·simp only [ag,List.mem_singleton] at i
    rw [i,v];simp
end
end Go.Dx
namespace K
open Go Go.Dx Go.RowKit Go.Proofs
set_option maxRecDepth 100000
variable{cs:List Value}{k:Nat}{v:Value}{ρ:bD}
section
variable {H:Type} {enc:TypeId×Value->H} {W:World} {spare:Nat->Bool} {held:Bool} {N:Nat}{xs:List (DataW H×List MemPlace)}
theorem am0:Tryz.prog.cellsOf 3=1:=by kernel_rfl
theorem am1:Tryz.prog.cellsOf 9=1:=by kernel_rfl
theorem aii:Tryz.prog.cellsOf 31=1:=by kernel_rfl
theorem aij:Tryz.prog.cellsOf 34=1:=by kernel_rfl
theorem Ss:Tryz.prog.cellsOf 30=4:=by kernel_rfl
theorem ZL:Tryz.prog.cellsOf 40=6:=by kernel_rfl
theorem ZM:Tryz.prog.cellsOf 33=7:=by kernel_rfl
theorem ZN:Tryz.prog.cellsOf 36=15:=by kernel_rfl
theorem wf_i64 {n:Int}(h:(Lit.int .i64 n).wf=true):i64 n:=by
 simp only [Lit.wf,Bool.and_eq_true,decide_eq_true_eq] at h;have a:IntKind.i64.min = -9223372036854775808:=by decide
 have b:IntKind.i64.max=9223372036854775807:=by decide
 rw [a,b] at h;exact h
theorem fld {t c off:Nat}{vs:List Value}{i:Nat}(a:DataW.trod enc Tryz.prog W 0 spare held k t ((cs.drop off).take (Tryz.prog.cellsOf t))=xs[i]?)(d:Tryz.prog.cellsOf t=c)(hi:i<xs.length)(b:(cs.drop off).take c=vs):∃y,DataW.trod enc Tryz.prog W 0 spare held k t vs=some y:=by
 rw [d,b,List.getElem?_eq_getElem hi] at a;exact ⟨_,a⟩
theorem Oh {off i:Nat}(b:DataW.trod enc Tryz.prog W 0 spare held k 3 ((cs.drop off).take (Tryz.prog.cellsOf 3))=xs[i]?)(hi:i<xs.length)(a:(cs.drop off).take 1=[v]):∃n,v = .int .i64 n/\i64 n:=by
 obtain ⟨y,hy⟩:=fld b am0 hi a;obtain ⟨n,e,_,h⟩:=DataW.trod_int Tryz.underlying3 hy;cases e;exact ⟨n,rfl,wf_i64 h⟩
theorem afZ {off i:Nat}(b:DataW.trod enc Tryz.prog W 0 spare held k 9 ((cs.drop off).take (Tryz.prog.cellsOf 9))=xs[i]?)(hi:i<xs.length)(a:(cs.drop off).take 1=[v]):∃s,v = .string s/\s.size<=maxLen:=by
 obtain ⟨y,hy⟩:=fld b am1 hi a;obtain ⟨s,e,_,h⟩:=DataW.trod_string Tryz.underlying9 hy;cases e;exact ⟨s,rfl,h⟩
theorem Wg {x:DataW H×List MemPlace}(h:DataW.trod enc Tryz.prog W 0 spare held k 30 cs=some x):∃n s q u,cs=[.int .i64 n,.string s,.string q,.string u]/\i64 n/\s.size<=maxLen/\q.size<=maxLen/\u.size<=maxLen:=by
 obtain ⟨xs,p,_,_,l,j,f⟩:=DataW.trod_struct Tryz.underlying30 h;rw [Ss] at l;obtain ⟨a,b,c,d,rfl⟩:∃a b c d,cs=[a,b,c,d]:=by
  match cs,l with
  | [a,b,c,d],_=>exact ⟨a,b,c,d,rfl⟩
 have j:xs.length=4:=j;obtain ⟨n,rfl,h0⟩:=Oh (f 0 _ rfl) (by omega) rfl;obtain ⟨s,rfl,o⟩:=afZ (f 1 _ rfl) (by omega) rfl;obtain ⟨q,rfl,m⟩:=afZ (f 2 _ rfl) (by omega) rfl;obtain ⟨u,rfl,h3⟩:=afZ (f 3 _ rfl) (by omega) rfl;exact ⟨n,s,q,u,rfl,h0,o,m,h3⟩
theorem iF {s:ByteArray}(h:s.size<=maxLen):(au s).length<=9223372036854775807:=by
 have:(au s).length=s.size:=by
  unfold au;rw [List.length_map];exact Array.length_toList
 have a:maxLen=9223372036854775807:=rfl;omega
def am3 (ρ:bD)(cs:List Value)(d:ep):Prop:=cs.map (Ax ρ)=cx [d]/\MQ d/\d.text.length<=9223372036854775807
theorem am4 {x:DataW H×List MemPlace}(h:DataW.trod enc Tryz.prog W 0 spare held k 40 cs=some x):∃d,am3 ρ cs d:=by
 obtain ⟨xs,v,_,_,j,i,g⟩:=DataW.trod_struct Tryz.underlying40 h;rw [ZL] at j;obtain ⟨a,b,c,d,e,f,rfl⟩:∃a b c d e f,cs=[a,b,c,d,e,f]:=by
  match cs,j with
  | [a,b,c,d,e,f],_=>exact ⟨a,b,c,d,e,f,rfl⟩
 have i:xs.length=3:=i;obtain ⟨s,rfl,h0⟩:=afZ (g 0 _ rfl) (by omega) rfl;obtain ⟨n,rfl,m⟩:=Oh (g 1 _ rfl) (by omega) rfl;obtain ⟨y,hy⟩:=fld (g 2 _ rfl) Ss (by omega) (vs:=[c,d,e,f]) rfl;obtain ⟨t,o,l,q,r,u,h3,h4,p⟩:=Wg hy;cases r;refine ⟨⟨au s,n,t,au o,au l,au q⟩,?_,⟨iF h0,iF h3,iF h4,m⟩,iF p⟩;simp only [List.map_cons,List.map_nil,Sp,Sq,cx]
inductive Ii {δ:Type}(R:List Value->δ->Prop):List Value->List δ->Prop
 | nil:Ii R [] []
 | snoc {xs cs:List Value} {ds:List δ} {d:δ} (h:Ii R xs ds) (r:R cs d):Ii R (xs++cs) (ds++[d])
theorem Yt {f:Type}{size:Nat}{cell:Nat->Option Value} {R:List Value->f->Prop}:∀n,(∀i,i<n->∃cs d,cs.length=size/\(∀j,j<size->cell (i*size+j)=cs[j]?)/\R cs d)->∃xs ds,xs.length=n*size/\ds.length=n/\(∀k,k<n*size->cell k=xs[k]?)/\Ii R xs ds
 | 0,_=>⟨[],[],by simp,rfl,λk e=>by simp at e,.nil⟩
 | n+1,h=>by
   obtain ⟨xs,ds,a,b,c,r⟩:=Yt n λi hi=>h i (by omega);obtain ⟨cs,d,g,m,l⟩:=h n (by omega);refine ⟨xs++cs,ds++[d],by rw [List.length_append,a,g,Nat.add_mul];omega,by simp [b],λk e=>?_,.snoc r l⟩;rw [Nat.add_mul] at e
   by_cases bA:k<n*size
   ·rw [List.getElem?_append_left (by omega)];exact c k bA
   ·rw [List.getElem?_append_right (by omega),a]
    have:=m (k - n*size) (by omega);rw [show n*size+(k - n*size)=k by omega] at this;exact this
theorem Ii.lgd {xs:List Value}{l:List ep}(h:Ii (am3 ρ) xs l):xs.map (Ax ρ)=cx l/\∀x∈l,MQ x/\x.text.length<=9223372036854775807:=by
 induction h with
 | nil=>exact ⟨rfl,by simp⟩
 | snoc h r ih=>
   refine ⟨by rw [List.map_append,ih.1,r.1,oH],λx a=>?_⟩;rcases List.mem_append.1 a with a | a
   ·exact ih.2 x a
   ·simp at a;subst a;exact r.2
theorem am5 {x:DataW H×List MemPlace}(F:W.heap.size<=N)(h:DataW.trod enc Tryz.prog W 0 spare held k 31 [v]=some x):∃l,Hn (kN W N) (Ax (gF W N) v) l/\∀q,q∈ag (Ax (gF W N) v)->(kN W N).get q≠none:=by
 rcases Go.Deep.open_slice Tryz.underlying31 h with ⟨e,_⟩ | ⟨a,n,c,m,I,D,Pl,e,_,p,J,C,_,b⟩
 ·cases e
  refine ⟨[],⟨?_,by simp,by simp⟩,?_⟩
  ·rw [Ju];exact .nil 0
  ·rw [Ju];simp [ag]
 ·cases e
  have G:n<=m:=by rw [C];split<;>omega
  rw [ZL] at b;obtain ⟨xs,l,o,A,h3,h4⟩:=Yt (size:=6) (cell:=λk=>W.cell? (a.add k)) (R:=am3 (gF W N)) n λi hi=>by
   obtain ⟨cs,B,z⟩:=b i (by omega);obtain ⟨_,u,E⟩:=World.cells?_some B;obtain ⟨d,r⟩:=am4 (ρ:=gF W N) z;exact ⟨cs,d,u,λj t=>by
    have:=E j t
    rwa [Addr.add_add] at this,r⟩
  obtain ⟨f,y⟩:=slI (w:=W) (N:=N) (c:=c) (by omega) F o h3;obtain ⟨g,s⟩:=h4.lgd;rw [g] at f;have KI:maxLen=9223372036854775807:=rfl;exact ⟨l,⟨by rw [A];exact f,by omega,s⟩,y⟩
theorem am6 {x:DataW H×List MemPlace}(h:DataW.trod enc Tryz.prog W 0 spare held k 34 [v]=some x):∃a n c,v = .slice a n c:=by
 rcases Go.Deep.open_slice Tryz.underlying34 h with ⟨e,_⟩ | ⟨a,n,c,m,b,D,Pl,e,_⟩
 ·cases e;exact ⟨_,_,_,rfl⟩
 ·cases e;exact ⟨_,_,_,rfl⟩
theorem MM {a:Option Addr}{n c:Nat}:cf (Ax ρ (.slice a n c))=true:=by
 have h:=B5 ρ (.slice a n c);generalize Ax ρ (.slice a n c)=v at h;generalize b:Value.slice a n c=x at h;cases h<;>first | rfl | cases b
structure anK (h:Dx.H)(ρ:bD)(cs:List Value)(kind:Int)(af:List Nat)(from_ az last top:Int)(lv:V)(list:List ep):Prop where
 cells:cs.map (Ax ρ)=[.int .i64 kind,.str af,.int .i64 from_,.int .i64 az,.int .i64 last,.int .i64 top,lv]
 VK:Hn h lv list
 az:i64 az
 af:af.length<=9223372036854775807
 live:∀q,q∈ag lv->h.get q≠none
 ints:i64 kind/\i64 from_/\i64 last/\i64 top
theorem acT {x:DataW H×List MemPlace}(z:W.heap.size<=N)(h:DataW.trod enc Tryz.prog W 0 spare held k 33 cs=some x):∃a b c d e f g l,anK (kN W N) (gF W N) cs a b c d e f g l:=by
 obtain ⟨xs,A,_,_,n,m,i⟩:=DataW.trod_struct Tryz.underlying33 h;rw [ZM] at n;obtain ⟨a,b,c,d,e,f,g,rfl⟩:∃a b c d e f g,cs=[a,b,c,d,e,f,g]:=by
  match cs,n with
  | [a,b,c,d,e,f,g],_=>exact ⟨a,b,c,d,e,f,g,rfl⟩
 have m:xs.length=7:=m;obtain ⟨n0,rfl,h0⟩:=Oh (i 0 _ rfl) (by omega) rfl;obtain ⟨s,rfl,t⟩:=afZ (i 1 _ rfl) (by omega) rfl;obtain ⟨w,rfl,r⟩:=Oh (i 2 _ rfl) (by omega) rfl;obtain ⟨o,rfl,h3⟩:=Oh (i 3 _ rfl) (by omega) rfl;obtain ⟨p,rfl,h4⟩:=Oh (i 4 _ rfl) (by omega) rfl;obtain ⟨q,rfl,u⟩:=Oh (i 5 _ rfl) (by omega) rfl;obtain ⟨y,hy⟩:=fld (i 6 _ rfl) aii (by omega) (vs:=[g]) rfl;obtain ⟨l,v,j⟩:=am5 z hy;refine ⟨n0,au s,w,o,p,q,Ax (gF W N) g,l,⟨?_,v,h3,iF t,j,h0,r,h4,u⟩⟩;simp only [List.map_cons,List.map_nil,Sp,Sq]
def DcR (h:Dx.H)(ρ:bD)(cs:List Value)(d:M0):Prop:=cs.map (Ax ρ)=VG [d]/\SZ h d/\∀q,q∈ag d.lv->h.get q≠none
theorem am7 {x:DataW H×List MemPlace}(hN:W.heap.size<=N)(h:DataW.trod enc Tryz.prog W 0 spare held k 36 cs=some x):∃d,DcR (kN W N) (gF W N) cs d:=by
 obtain ⟨xs,k',_,_,u,v,e⟩:=DataW.trod_struct Tryz.underlying36 h;rw [ZN] at u;obtain ⟨a,r,t,i,j,q,m,g,p,n,f,s,z,b,c,rfl⟩:∃a r t i j q m g p n f s z b c,cs=[a,r,t,i,j,q,m,g,p,n,f,s,z,b,c]:=by
  match cs,u with
  | [a,r,t,i,j,q,m,g,p,n,f,s,z,b,c],_=>exact ⟨a,r,t,i,j,q,m,g,p,n,f,s,z,b,c,rfl⟩
 have v:xs.length=6:=v;obtain ⟨n0,rfl,h0⟩:=Oh (e 0 _ rfl) (by omega) rfl;obtain ⟨y0,BV⟩:=fld (e 1 _ rfl) Ss (by omega) (vs:=[r,t,i,j]) rfl;obtain ⟨y,hy⟩:=fld (e 2 _ rfl) ZM (by omega) (vs:=[q,m,g,p,n,f,s]) rfl;obtain ⟨P,rfl,h3⟩:=Oh (e 3 _ rfl) (by omega) rfl;obtain ⟨y2,SG⟩:=fld (e 4 _ rfl) aij (by omega) (vs:=[b]) rfl;obtain ⟨X,rfl,h5⟩:=Oh (e 5 _ rfl) (by omega) rfl;obtain ⟨B,b2,I,rfl⟩:=am6 SG;obtain ⟨T,s1,E,K,C,g0,Q,U,D⟩:=Wg BV;cases C;obtain ⟨q0,F,R,A,L,G,M,l,o⟩:=acT hN hy;refine ⟨⟨n0,T,au s1,au E,au K,q0,F,R,A,L,G,M,l,P,Ax (gF W N) (.slice B b2 I),X⟩,?_,⟨o.VK,MM,o.az,o.af,iF Q,iF U,iF D,h3⟩,o.live⟩;have:=o.cells;simp only [List.map_cons,List.map_nil,List.cons.injEq,and_true] at this;obtain ⟨Z,S,O,J,V,Y,w⟩:=this;simp only [List.map_cons,List.map_nil,Sp,Sq,VG,Z,S,O,J,V,Y,w]
theorem MN:∀(a b:List M0),VG (a++b)=VG a++VG b
 | [],b=>rfl
 | x::r,b=>by simp only [List.cons_append,VG,MN r b]
theorem Ii.dos {h:Dx.H}{xs:List Value}{l:List M0}(g:Ii (DcR h ρ) xs l):xs.map (Ax ρ)=VG l/\(∀x∈l,SZ h x)/\∀x∈l,∀q,q∈ag x.lv->h.get q≠none:=by
 induction g with
 | nil=>exact ⟨rfl,by simp,by simp⟩
 | snoc g r ih=>
   refine ⟨by rw [List.map_append,ih.1,r.1,MN],λx a=>?_,λx a=>?_⟩
   ·rcases List.mem_append.1 a with a | a
    ·exact ih.2.1 x a
    ·simp at a;subst a;exact r.2.1
   ·rcases List.mem_append.1 a with a | a
    ·exact ih.2.2 x a
    ·simp at a;subst a;exact r.2.2
theorem Wd {x:DataW H×List MemPlace}(b:W.heap.size<=N)(h:DataW.trod enc Tryz.prog W 0 spare held k 22 [v]=some x):∃l,xG (kN W N) (Ax (gF W N) v) l/\(∀q,q∈ag (Ax (gF W N) v)->(kN W N).get q≠none)/\∀x∈l,∀q,q∈ag x.lv->(kN W N).get q≠none:=by
 rcases Go.Deep.open_slice Tryz.underlying22 h with ⟨e,_⟩ | ⟨a,n,c,m,J,D,Pl,e,_,r,K,E,_,f⟩
 ·cases e
  refine ⟨[],⟨?_,by simp,by simp⟩,?_,by simp⟩
  ·rw [Ju];exact .nil 0
  ·rw [Ju];simp [ag]
 ·cases e
  have I:n<=m:=by rw [E];split<;>omega
  rw [ZN] at f;obtain ⟨xs,l,p,B,h3,h4⟩:=Yt (size:=15) (cell:=λk=>W.cell? (a.add k)) (R:=DcR (kN W N) (gF W N)) n λi hi=>by
   obtain ⟨cs,C,A⟩:=f i (by omega);obtain ⟨_,y,F⟩:=World.cells?_some C;obtain ⟨d,t⟩:=am7 (N:=N) b A;exact ⟨cs,d,y,λj G=>by
    have:=F j G
    rwa [Addr.add_add] at this,t⟩
  obtain ⟨g,z⟩:=slI (w:=W) (N:=N) (c:=c) (by omega) b p h3;obtain ⟨o,u,s⟩:=h4.dos;rw [o] at g;have KI:maxLen=9223372036854775807:=rfl;exact ⟨l,⟨by rw [B];exact g,by omega,u⟩,z,s⟩
end
end K
namespace Go.Proofs.YtdjlhmmfplhhdaaGreatDoor
open Go.ChangeShapes Go.WideShapes Go.ChangeAt Go.RowKit
theorem MO {P:Program}{w0:World}{a:List (String×DataW Unit)}(args:Array Value)
  (d:w0.layFits P a []=true) (hi:w0.layIfaces P a (w0.layVars P a)=true):
  laidMet P a ((w0.layVars P a).forCall (λ_ _=>0) ⟨#[],args,[]⟩).memory:=by
 have c:(a.filter λx=>(a.map (·.1)).contains x.1)=a:=List.filter_eq_self.2 λx b=>List.contains_iff_mem.2 (List.mem_map.2 ⟨x,b,rfl⟩);have e:(a.filter λx=>!(a.map (·.1)).contains x.1)=[]:=List.filter_eq_nil_iff.2 λx b=>by rw [List.contains_iff_mem.2 (List.mem_map.2 ⟨x,b,rfl⟩)];simp
 have h:laidMet P a (w0.layVars P a):=laidMet_layVars (w0:=w0) (a.map (·.1)) [] (by rw [c]) (by rw [c];exact d) (by rw [c];exact hi) (by rw [e];exact LaidIn.none);exact h.of_heap (by simp [World.memory,World.forCall,Input.heap])
noncomputable def St (os:Os):World:=
 let w:=World.holding Tryz.prog os ⟨#[],#[],[]⟩
 {w with heap:=w.heap.modify 0 λ
   | .cells _ t frozen=>.cells #[.iface 226 (.agg #[.pointer (some ⟨7,45,none⟩)])] t frozen
   | o=>o}
def listed:List (String×DataW Unit):=Rows.clientThereRow.laid.filter λx=>x.2.handleName?.isNone
noncomputable def start (os:Os):World:=(St os).layVars Tryz.prog listed
theorem Yu (os:Os):(St os).layFits Tryz.prog listed []=true:=by kernel_rfl
end Go.Proofs.YtdjlhmmfplhhdaaGreatDoor
namespace Go.Proofs.YtdjlhmmfplhhdaaGreatDoor
open Go.ChangeShapes Go.WideShapes Go.ChangeAt Go.RowKit
theorem Sv (os:Os):(St os).layIfaces Tryz.prog listed ((St os).layVars Tryz.prog listed)=true:=by kernel_rfl
theorem Sw (os:Os)(args:Array Value):((Rows.clientThereRow.laid.filter λx=>x.2.handleName?.isSome&&x.2.funcsIn?.isNone).all (handleAtB Tryz.prog ((start os).forCall (λ_ _=>0) ⟨#[],args,[]⟩).memory))=true:=by kernel_rfl
theorem JL (os:Os)(args:Array Value):laidMetH Tryz.prog Rows.clientThereRow.laid ((start os).forCall (λ_ _=>0) ⟨#[],args,[]⟩).memory:=
 laidMetH_of_parts3 (fuel:=8) (MO args (Yu os) (Sv os)) (Sw os args) (by kernel_rfl)
end Go.Proofs.YtdjlhmmfplhhdaaGreatDoor
namespace Go.Proofs.YtdjlhmmfplhhdaaGreatDoor
open Go.ChangeShapes Go.WideShapes Go.ChangeAt Go.RowKit
theorem own:ownKnob Tryz.prog.godebug=none:=by kernel_rfl
theorem laidOut:laidOutB Tryz.prog=true:=by kernel_rfl
theorem et:Tryz.prog.globalNamed "errors.errorType" =some 0:=by kernel_rfl
theorem ayX:Tryz.prog.globalNamed "internal/strconv.uint64pow10" =some 1:=by kernel_rfl
theorem rt:(Tryz.prog.cutTypes.find? (·.1 == "internal/reflectlite.rtype")).map (·.2)=some 226:=by kernel_rfl
theorem am8:((List.range 453).filter λt=>Tryz.prog.rowNamed t [101,114,114,111,114])=[45]:=by kernel_rfl
theorem arP:Tryz.prog.types.size=453:=by kernel_rfl
theorem MP {W:World}(h:laidMetH Tryz.prog Rows.clientThereRow.laid W):W.cell? ⟨0,0,none⟩=some (.iface 226 (.agg #[.pointer (some ⟨7,45,none⟩)])):=by
 have h':laidMet Tryz.prog (Rows.clientThereRow.laid.filter λx=>x.2.handleName?.isNone) W/\handlesMet Tryz.prog [("errors.errorType",Rows.laid_errors_errorType)] W:=h;obtain ⟨name,u,c,d,j,g,i,b⟩:=h'.2 _ (List.mem_singleton.2 rfl);have e:name=[101,114,114,111,114]:=(Option.some.inj d).symm;subst e;obtain rfl:=Option.some.inj (rt.symm.trans j);have a:c∈(List.range 453).filter λt=>Tryz.prog.rowNamed t [101,114,114,111,114]:=List.mem_filter.2 ⟨List.mem_range.2 (by rw [<-arP];exact g),i⟩;rw [am8] at a;obtain rfl:=List.mem_singleton.1 a;have f:typeHandle Tryz.prog 45 = .pointer (some ⟨7,45,none⟩):=by kernel_rfl
 rw [f] at b;simpa using World.var?_cell et b 0
theorem aik:("internal/strconv.uint64pow10",(Lib.tabData .u64 Lib.pow10Tab:DataW Unit))∈Rows.clientThereRow.laid.filter λx=>x.2.handleName?.isNone:=
 List.mem_of_getElem? (i:=2) (show (Rows.clientThereRow.laid.filter λx=>x.2.handleName?.isNone)[2]? =some ("internal/strconv.uint64pow10",Lib.tabData .u64 Lib.pow10Tab) by kernel_rfl)
theorem VF {W:World}(h:laidMetH Tryz.prog Rows.clientThereRow.laid W):Lib.TabIs Tryz.prog W "internal/strconv.uint64pow10" .u64 Lib.pow10Tab:=by
 have h':laidMet Tryz.prog (Rows.clientThereRow.laid.filter λx=>x.2.handleName?.isNone) W/\handlesMet Tryz.prog [("errors.errorType",Rows.laid_errors_errorType)] W:=h;obtain ⟨g,t,cs,fuel,p,c,a,b,d⟩:=Lib.laidMet.reads h'.1 aik;obtain rfl:=Option.some.inj (ayX.symm.trans c);obtain rfl:=Option.some.inj ((show (Tryz.prog.globals[1]?).map (·.type)=some 374 by kernel_rfl).symm.trans a);have:=Lib.cells_of_tab Tryz.underlying374 Tryz.underlying207 (by kernel_rfl) (by kernel_rfl) d;unfold Lib.TabIs;rw [b,<-this]
theorem one_cell {P:Program}{w:World}{base:Nat}{t e:TypeId}{v:Value}(a:P.underlying t=some (.slice e))(h:Value.okWide P w .any base t v):v.cells.toList=[v]:=by
 unfold Value.okWide at h;rw [a] at h;have h:Cell.okWide P w .any base t v:=h;unfold Cell.okWide Cell.ok at h;rw [a] at h;cases v<;>first | rfl | simp at h
def top (W:World):Nat:=max W.heap.size 8
theorem JI (W:World):W.heap.size<=top W:=Nat.le_max_left _ _
theorem acR {W:World}(hs:W.ShapedOpen Tryz.prog)(m:laidMetH Tryz.prog Rows.clientThereRow.laid W):K.HE (Dx.kN W (top W)):=by
 have a:=MP m;have c:∃cs t d,W.heap[0]? =some (.cells cs t d)/\cs.size=1:=by
  have i:(((begin Tryz.prog (λ_ _=>0) default).world.heap[0]?).bind Obj.row?).map (λx=>x.1.size)=some 1:=by kernel_rfl
  obtain ⟨⟨zero,h⟩,g,e⟩:=Option.map_eq_some_iff.1 i;obtain ⟨cs,b,h3,_⟩:=hs.1 0 zero h (of_decide_eq_true (by kernel_rfl)) g;exact ⟨cs,_,_,b,by rw [h3];exact e⟩
 obtain ⟨cs,t,d,b,n⟩:=c;have j:cs = #[.iface 226 (.agg #[.pointer (some ⟨7,45,none⟩)])]:=by
  unfold World.cell? at a;rw [b] at a;simp only [] at a;cases cs with | mk l=>
  match l,n with
  | [x],_=>
    simp at a;rw [a]
 subst j;have o:8<=top W:=Nat.le_max_right _ _;refine ⟨t,0,?_⟩;rw [<-K.SQ 0 (by omega),<-K.SQ 7 (by omega),Dx.PW (by omega),Dx.ML b];have e:Dx.Ax (Dx.gF W (top W)) (.iface 226 (.agg #[.pointer (some ⟨7,45,none⟩)])) = .iface 226 (.agg [.ptr (Dx.bw 7) 45]):=by
  refine Dx.uD rfl ?_;have f:=Dx.RV.ptr (ρ:=Dx.gF W (top W)) 45 (Dx.Sr (w:=W) (N:=top W) (k:=7) (by omega));rw [Nat.zero_add] at f;exact .iface 226 (.agg (.cons f .nil))
 simp [e]
theorem arQ {W:World}(a:laidMetH Tryz.prog Rows.clientThereRow.laid W):Dx.GB (K.pf ()) W.heap.size W (Dx.gF W (top W)) K.G0:=
 ⟨Dx.ab' K.SQ (Nat.le_max_right _ _),Lib.tabBelow_of_tabIs (VF a)⟩
theorem JJ {f:FuncId}{func:Func}{c:Code}{args:List Dx.V}{xs:List Value}{W:World}(i:Tryz.prog.funcs[f]? =some func)(l:func.body=some c)(j:(func.name == "runtime.NumGoroutine")=false)
  (r:laidMetH Tryz.prog Rows.clientThereRow.laid W) (h:Dx.CW K.pf K.G0 f args (Dx.kN W (top W)) λv _=>v = .bool true) (o:Dx.cZ (Dx.gF W (top W)) args xs):
  Calls Tryz.prog f ⟨xs⟩ W λe W'=>e = .returned (.bool true)/\Below W.heap.size W W':=by
 have g:=h.out (Dx.ab9 (w:=W) (JI W)) (arQ r) o;have n:Dx.Good Tryz.prog f xs W λx w'=>∃v h' d,v=Dx.V.bool true/\Dx.Step (Dx.gF W (top W)) d (Dx.kN W (top W)) h'/\Dx.RV d v x/\Dx.aA W.heap.size W d h' w':=by
  rcases g with ⟨v,w',a,b⟩ | ⟨a,b⟩
  ·exact .inl ⟨v,w',a,b⟩
  ·refine .inr ⟨a,b.mono λe w' q=>?_⟩
   rcases q with q | ⟨v,_,_,_,_,q,_⟩
   ·exact q
   ·exact q.elim
 refine (n.calls i l j).mono λe w' ⟨x,p,v,h',d,k,_,m,R⟩=>?_;subst k;cases m;exact ⟨p,R.below⟩
end Go.Proofs.YtdjlhmmfplhhdaaGreatDoor
namespace Go.Proofs.YtdjlhmmfplhhdaaGreatDoor
open Go
theorem FJ:Tryz.pinned.checked.prog.mainIs=some (true,"3382da370bd015123311a0ca8cb0195433074e8547ef1cde58037c4b5e8ac669".toList):=by kernel_rfl
theorem B3:true=Tryz.pinned.checked.prog.looks []:=by kernel_rfl
theorem Sx {P:Program}(h:P.funcs.any Func.goes=false)(f:FuncId):P.goes f=false:=by
 unfold Program.goes;have b:∀g:Nat,(P.funcs[g]?).any Func.goes=false:=λg=>by
  cases hg:P.funcs[g]? with
  | none=>rfl
  | some fn=>
    have c:fn∈P.funcs:=Array.mem_of_getElem? hg;rw [Array.any_eq_false'] at h;simpa using h fn c
 have a:((P.closure f).any λg=>(P.funcs[g]?).any Func.goes)=false:=by simp [b]
 rw [a,h];simp
theorem qC {P:Program}{c:OpenClaim}(hs:c.start = .entering)(h:P.funcs.any Func.goes=false):false=c.goesBy P:=by
 unfold OpenClaim.goesBy Program.goesAt Program.goesFrom;rw [hs];cases P.funcNamed c.func with
 | none=>rfl
 | some f=>simp [Sx h f]
theorem FV:Tryz.pinned.checked.prog.funcs.any Func.goes=false:=by kernel_rfl
end Go.Proofs.YtdjlhmmfplhhdaaGreatDoor
