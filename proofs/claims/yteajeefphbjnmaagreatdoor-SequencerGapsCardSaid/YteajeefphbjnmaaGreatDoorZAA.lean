/-
  The sequencer's laws. Part ZAA of the proof: The shelf contracts at this program, in plain words (written by the kit lay-plain.mjs of tools/WaShelf.shelf_lay.txt).
-/
import Derived.Test.YteajeefphbjnmaaGreatDoorProg
import Derived.Shelf.SlGeneric
import Derived.Shelf.LaysM
import Derived.Shelf.Strconv.Itoa3
import Derived.Shelf.Strings.Repeat
import Derived.Shelf.Strings.OnBuilder
import Derived.Shelf.Strconv.Itoa4
import Derived.Shelf.SlIter.Collect
import Derived.Sort.KeysCollected
import Derived.Ground.GgzProg
import Derived.Shelf.SlSortCmp.WholeK
import Derived.Shelf.SlSortCmp.NoneTotal
import Derived.Shelf.Small.Strs
import Derived.Ground.SlsfProg
import Derived.Ground.NamesProg
import Derived.Shelf.SortM.Plain
import Derived.Shelf.SortM.SortNone
import Derived.Ground.SlgmProg
import Derived.Calls
import GoSem.Dispatch
namespace Go.Proofs
open Go.Shelf
def Tryz.Pb:Go.Shelf.Ren:=⟨λ| 171=>54 | 243=>90 | 246=>159 | 283=>212 | 284=>213 | 285=>214 | 286=>215 | 129=>127 | 317=>251 | 318=>252 | 319=>253 | 320=>254 | 337=>282 | 338=>283 | n=>n,λ| 3=>3 | 9=>9 | 2=>2 | 4=>4 | 171=>306 | 0=>0 | 53=>211 | 37=>81 | 5=>5 | 173=>308 | 212=>355 | 51=>99 | 20=>20 | 213=>356 | 46=>66 | 232=>399 | 233=>400 | n=>n,λ| 17=>1 | 18=>5 | 19=>6 | n=>n⟩
theorem Tryz.abQ:Go.Proofs.LaysM.n171 Tryz.prog Tryz.Pb:=by
 constructor<;>intros<;>first | kernel_rfl | (constructor<;>intros<;>kernel_rfl)
def Tryz.GR:Go.Shelf.Ren:=⟨λ| 105=>61 | 212=>108 | 99=>109 | 165=>110 | 166=>111 | 170=>112 | 169=>113 | 263=>175 | 264=>176 | 206=>177 | 240=>178 | 241=>179 | 276=>225 | 277=>226 | n=>n,λ| 9=>9 | 3=>3 | 4=>4 | 20=>20 | 0=>0 | 46=>66 | 109=>184 | 5=>5 | 72=>189 | 76=>191 | 51=>99 | 146=>266 | 53=>211 | 148=>268 | 70=>187 | 37=>81 | 75=>112 | 127=>270 | 164=>219 | 80=>193 | n=>n,λ| n=>n⟩
theorem Tryz.Dk:Go.Proofs.Lays.n105 Tryz.prog Tryz.GR:=by
 constructor<;>intros<;>first | kernel_rfl | (constructor<;>intros<;>kernel_rfl)
def Tryz.GU:Go.Shelf.Ren:=⟨λ| 156=>279 | 165=>110 | 166=>111 | 169=>113 | 240=>178 | 241=>179 | 276=>225 | 277=>226 | n=>n,λ| 31=>129 | 9=>9 | 3=>3 | 4=>4 | 0=>0 | 20=>20 | 72=>189 | 76=>191 | 70=>187 | 37=>81 | 75=>112 | 127=>270 | 164=>219 | 5=>5 | 80=>193 | n=>n,λ| n=>n⟩
theorem Tryz.Xw:Go.Proofs.Lays.n156 Tryz.prog Tryz.GU:=by
 constructor<;>intros<;>first | kernel_rfl | (constructor<;>intros<;>kernel_rfl)
def Tryz.Pd:Go.Shelf.Ren:=⟨λ| 173=>206 | 246=>159 | 283=>212 | 284=>213 | 285=>214 | 286=>215 | 129=>127 | 317=>251 | 318=>252 | 319=>253 | 320=>254 | 337=>282 | 338=>283 | n=>n,λ| 2=>2 | 3=>3 | 9=>9 | 4=>4 | 171=>306 | 0=>0 | 53=>211 | 37=>81 | 5=>5 | 173=>308 | 212=>355 | 51=>99 | 20=>20 | 213=>356 | 46=>66 | 232=>399 | 233=>400 | n=>n,λ| 17=>1 | 18=>5 | 19=>6 | n=>n⟩
theorem Tryz.abR:Go.Proofs.LaysM.n173 Tryz.prog Tryz.Pd:=by
 constructor<;>intros<;>first | kernel_rfl | (constructor<;>intros<;>kernel_rfl)
def Tryz.NC:Go.Shelf.Ren:=⟨λ| 7=>122 | 10=>192 | n=>n,λ| 23=>105 | 26=>9 | 3=>85 | 28=>207 | 0=>0 | 27=>206 | 33=>57 | 4=>4 | n=>n,λ| n=>n⟩
theorem Tryz.amZ:Go.Proofs.SlLaysZ.n7 Tryz.prog Tryz.NC:={
 mixed:=by kernel_rfl
 f7:=⟨Tryz.f122.name,by decide,Tryz.func122.trans (congrArg some (by kernel_rfl))⟩
 f10:=⟨Tryz.f192.name,by decide,Tryz.func192.trans (congrArg some (by kernel_rfl))⟩
 t0:=Tryz.underlying0
 a0:=Tryz.isAgg0
 z0:=Tryz.sizeOf0
 v0:=Tryz.zeroValue0
 t4:=Tryz.underlying4
 a4:=Tryz.isAgg4
 z4:=Tryz.sizeOf4
 v4:=Tryz.zeroValue4
 t23:=Tryz.underlying105
 a23:=Tryz.isAgg105
 z23:=Tryz.sizeOf105
 v23:=Tryz.zeroValue105
 t26:=Tryz.underlying9
 a26:=Tryz.isAgg9
 z26:=Tryz.sizeOf9
 v26:=Tryz.zeroValue9
 t27:=Tryz.underlying206
 a27:=Tryz.isAgg206
 z27:=Tryz.sizeOf206
 v27:=Tryz.zeroValue206
 t28:=Tryz.underlying207
 a28:=Tryz.isAgg207
 z28:=Tryz.sizeOf207
 v28:=Tryz.zeroValue207
 t33:=Tryz.underlying57
 a33:=Tryz.isAgg57
 z33:=Tryz.sizeOf57
 v33:=Tryz.zeroValue57}
def Tryz.GV:Go.Shelf.Ren:=⟨λ| 6=>121 | 8=>190 | 9=>191 | 11=>243 | 13=>245 | 12=>244 | 23=>278 | 24=>127 | 14=>269 | 15=>270 | 16=>271 | 17=>272 | 18=>273 | 19=>274 | 20=>275 | 21=>276 | 22=>277 | 25=>292 | 26=>293 | 27=>294 | 28=>295 | 29=>296 | 30=>297 | 31=>319 | n=>n,λ| 26=>9 | 28=>207 | 24=>129 | 0=>0 | 3=>3 | 37=>66 | 48=>99 | 50=>211 | 4=>4 | 40=>370 | 39=>369 | 45=>374 | 5=>5 | 9=>9 | 51=>387 | 55=>391 | 57=>410 | 58=>411 | 33=>57 | n=>n,λ| n=>n⟩
theorem Tryz.afm:Go.Proofs.SlLaysZ.n6 Tryz.prog Tryz.GV:={
 mixed:=by kernel_rfl
 f6:=⟨Tryz.f121.name,by decide,Tryz.func121.trans (congrArg some (by kernel_rfl))⟩
 f8:=⟨Tryz.f190.name,by decide,Tryz.func190.trans (congrArg some (by kernel_rfl))⟩
 f11:=⟨Tryz.f243.name,by decide,Tryz.func243.trans (congrArg some (by kernel_rfl))⟩
 t0:=Tryz.underlying0
 a0:=Tryz.isAgg0
 z0:=Tryz.sizeOf0
 v0:=Tryz.zeroValue0
 t24:=Tryz.underlying129
 a24:=Tryz.isAgg129
 z24:=Tryz.sizeOf129
 v24:=Tryz.zeroValue129
 t26:=Tryz.underlying9
 a26:=Tryz.isAgg9
 z26:=Tryz.sizeOf9
 v26:=Tryz.zeroValue9
 t28:=Tryz.underlying207
 a28:=Tryz.isAgg207
 z28:=Tryz.sizeOf207
 v28:=Tryz.zeroValue207
 i26:=by kernel_rfl}
def Tryz.YS:Go.Shelf.Ren:=⟨λ| 6=>266 | 15=>245 | 14=>290 | 28=>278 | 29=>127 | 20=>311 | 21=>312 | 22=>313 | 23=>314 | 24=>315 | 25=>316 | 26=>317 | 27=>318 | 46=>324 | 47=>293 | 48=>294 | 49=>325 | 50=>326 | 57=>328 | n=>n,λ| 22=>51 | 24=>55 | 25=>344 | 3=>3 | 39=>66 | 0=>0 | 53=>99 | 55=>211 | 4=>4 | 46=>370 | 45=>369 | 50=>374 | 5=>5 | 9=>9 | 66=>387 | 70=>391 | 76=>410 | 77=>411 | n=>n,λ| n=>n⟩
theorem Tryz.ahu:Go.Proofs.SlLaysF0.n6 Tryz.prog Tryz.YS:={
 mixed:=by kernel_rfl
 f6:=⟨Tryz.f266.name,by decide,Tryz.func266.trans (congrArg some (by kernel_rfl))⟩
 f14:=⟨Tryz.f290.name,by decide,Tryz.func290.trans (congrArg some (by kernel_rfl))⟩
 f15:=Tryz.func245.trans (congrArg some (by kernel_rfl))
 f20:=⟨Tryz.f311.name,by decide,Tryz.func311.trans (congrArg some (by kernel_rfl))⟩
 f21:=⟨Tryz.f312.name,by decide,Tryz.func312.trans (congrArg some (by kernel_rfl))⟩
 f22:=⟨Tryz.f313.name,by decide,Tryz.func313.trans (congrArg some (by kernel_rfl))⟩
 f23:=⟨Tryz.f314.name,by decide,Tryz.func314.trans (congrArg some (by kernel_rfl))⟩
 f24:=⟨Tryz.f315.name,by decide,Tryz.func315.trans (congrArg some (by kernel_rfl))⟩
 f25:=⟨Tryz.f316.name,by decide,Tryz.func316.trans (congrArg some (by kernel_rfl))⟩
 f26:=⟨Tryz.f317.name,by decide,Tryz.func317.trans (congrArg some (by kernel_rfl))⟩
 f27:=⟨Tryz.f318.name,by decide,Tryz.func318.trans (congrArg some (by kernel_rfl))⟩
 f28:=Tryz.func278.trans (congrArg some (by kernel_rfl))
 f29:=Tryz.func127.trans (congrArg some (by kernel_rfl))
 f46:=⟨Tryz.f324.name,by decide,Tryz.func324.trans (congrArg some (by kernel_rfl))⟩
 f47:=Tryz.func293.trans (congrArg some (by kernel_rfl))
 f48:=Tryz.func294.trans (congrArg some (by kernel_rfl))
 f49:=⟨Tryz.f325.name,by decide,Tryz.func325.trans (congrArg some (by kernel_rfl))⟩
 f50:=⟨Tryz.f326.name,by decide,Tryz.func326.trans (congrArg some (by kernel_rfl))⟩
 f57:=⟨Tryz.f328.name,by decide,Tryz.func328.trans (congrArg some (by kernel_rfl))⟩
 t0:=Tryz.underlying0
 a0:=Tryz.isAgg0
 z0:=Tryz.sizeOf0
 v0:=Tryz.zeroValue0
 t3:=Tryz.underlying3
 a3:=Tryz.isAgg3
 z3:=Tryz.sizeOf3
 v3:=Tryz.zeroValue3
 t4:=Tryz.underlying4
 a4:=Tryz.isAgg4
 z4:=Tryz.sizeOf4
 v4:=Tryz.zeroValue4
 t5:=Tryz.underlying5
 a5:=Tryz.isAgg5
 z5:=Tryz.sizeOf5
 v5:=Tryz.zeroValue5
 t9:=Tryz.underlying9
 a9:=Tryz.isAgg9
 z9:=Tryz.sizeOf9
 v9:=Tryz.zeroValue9
 t22:=Tryz.underlying51
 a22:=Tryz.isAgg51
 z22:=Tryz.sizeOf51
 v22:=Tryz.zeroValue51
 t25:=Tryz.underlying344
 a25:=Tryz.isAgg344
 z25:=Tryz.sizeOf344
 v25:=Tryz.zeroValue344
 t39:=Tryz.underlying66
 a39:=Tryz.isAgg66
 z39:=Tryz.sizeOf66
 v39:=Tryz.zeroValue66
 t45:=Tryz.underlying369
 a45:=Tryz.isAgg369
 z45:=Tryz.sizeOf369
 v45:=Tryz.zeroValue369
 t46:=Tryz.underlying370
 a46:=Tryz.isAgg370
 z46:=Tryz.sizeOf370
 v46:=Tryz.zeroValue370
 t50:=Tryz.underlying374
 a50:=Tryz.isAgg374
 z50:=Tryz.sizeOf374
 v50:=Tryz.zeroValue374
 t53:=Tryz.underlying99
 a53:=Tryz.isAgg99
 z53:=Tryz.sizeOf99
 v53:=Tryz.zeroValue99
 t55:=Tryz.underlying211
 a55:=Tryz.isAgg211
 z55:=Tryz.sizeOf211
 v55:=Tryz.zeroValue211
 t66:=Tryz.underlying387
 a66:=Tryz.isAgg387
 z66:=Tryz.sizeOf387
 v66:=Tryz.zeroValue387
 t70:=Tryz.underlying391
 a70:=Tryz.isAgg391
 z70:=Tryz.sizeOf391
 v70:=Tryz.zeroValue391
 t76:=Tryz.underlying410
 a76:=Tryz.isAgg410
 z76:=Tryz.sizeOf410
 v76:=Tryz.zeroValue410
 t77:=Tryz.underlying411
 a77:=Tryz.isAgg411
 z77:=Tryz.sizeOf411
 v77:=Tryz.zeroValue411}
def Tryz.RQ:Go.Shelf.Ren:=⟨λ| 106=>242 | 213=>268 | 265=>291 | n=>n,λ| 9=>9 | 3=>3 | n=>n,λ| n=>n⟩
theorem Tryz.afn:Go.Proofs.Lays.n106 Tryz.prog Tryz.RQ:=by
 constructor<;>intros<;>first | kernel_rfl | (constructor<;>intros<;>kernel_rfl)
def Tryz.YT:Go.Shelf.Ren:=⟨λ| 6=>191 | 8=>245 | 9=>244 | 19=>278 | 20=>127 | 21=>269 | 22=>270 | 23=>271 | 24=>272 | 25=>273 | 26=>274 | 27=>275 | 28=>276 | 29=>277 | 36=>292 | 31=>293 | 32=>294 | 37=>295 | 38=>296 | 39=>297 | 41=>319 | n=>n,λ| 27=>129 | 29=>9 | 3=>3 | 32=>66 | 26=>129 | 0=>0 | 44=>99 | 46=>211 | 4=>4 | 36=>370 | 35=>369 | 41=>374 | 5=>5 | 9=>9 | 53=>387 | 57=>391 | 63=>410 | 64=>411 | n=>n,λ| n=>n⟩
theorem Tryz.ahv:Go.Proofs.SlLaysM.n6 Tryz.prog Tryz.YT:={
 mixed:=by kernel_rfl
 f6:=⟨Tryz.f191.name,by decide,Tryz.func191.trans (congrArg some (by kernel_rfl))⟩
 f8:=Tryz.func245.trans (congrArg some (by kernel_rfl))
 f9:=⟨Tryz.f244.name,by decide,Tryz.func244.trans (congrArg some (by kernel_rfl))⟩
 f19:=Tryz.func278.trans (congrArg some (by kernel_rfl))
 f20:=Tryz.func127.trans (congrArg some (by kernel_rfl))
 f21:=⟨Tryz.f269.name,by decide,Tryz.func269.trans (congrArg some (by kernel_rfl))⟩
 f22:=⟨Tryz.f270.name,by decide,Tryz.func270.trans (congrArg some (by kernel_rfl))⟩
 f23:=⟨Tryz.f271.name,by decide,Tryz.func271.trans (congrArg some (by kernel_rfl))⟩
 f24:=⟨Tryz.f272.name,by decide,Tryz.func272.trans (congrArg some (by kernel_rfl))⟩
 f25:=⟨Tryz.f273.name,by decide,Tryz.func273.trans (congrArg some (by kernel_rfl))⟩
 f26:=⟨Tryz.f274.name,by decide,Tryz.func274.trans (congrArg some (by kernel_rfl))⟩
 f27:=⟨Tryz.f275.name,by decide,Tryz.func275.trans (congrArg some (by kernel_rfl))⟩
 f28:=⟨Tryz.f276.name,by decide,Tryz.func276.trans (congrArg some (by kernel_rfl))⟩
 f29:=⟨Tryz.f277.name,by decide,Tryz.func277.trans (congrArg some (by kernel_rfl))⟩
 f31:=Tryz.func293.trans (congrArg some (by kernel_rfl))
 f32:=Tryz.func294.trans (congrArg some (by kernel_rfl))
 f36:=⟨Tryz.f292.name,by decide,Tryz.func292.trans (congrArg some (by kernel_rfl))⟩
 f37:=⟨Tryz.f295.name,by decide,Tryz.func295.trans (congrArg some (by kernel_rfl))⟩
 f38:=⟨Tryz.f296.name,by decide,Tryz.func296.trans (congrArg some (by kernel_rfl))⟩
 f39:=⟨Tryz.f297.name,by decide,Tryz.func297.trans (congrArg some (by kernel_rfl))⟩
 f41:=⟨Tryz.f319.name,by decide,Tryz.func319.trans (congrArg some (by kernel_rfl))⟩
 t0:=Tryz.underlying0
 a0:=Tryz.isAgg0
 z0:=Tryz.sizeOf0
 v0:=Tryz.zeroValue0
 t3:=Tryz.underlying3
 a3:=Tryz.isAgg3
 z3:=Tryz.sizeOf3
 v3:=Tryz.zeroValue3
 t4:=Tryz.underlying4
 a4:=Tryz.isAgg4
 z4:=Tryz.sizeOf4
 v4:=Tryz.zeroValue4
 t5:=Tryz.underlying5
 a5:=Tryz.isAgg5
 z5:=Tryz.sizeOf5
 v5:=Tryz.zeroValue5
 t9:=Tryz.underlying9
 a9:=Tryz.isAgg9
 z9:=Tryz.sizeOf9
 v9:=Tryz.zeroValue9
 t26:=Tryz.underlying129
 a26:=Tryz.isAgg129
 z26:=Tryz.sizeOf129
 v26:=Tryz.zeroValue129
 t27:=Tryz.underlying129
 a27:=Tryz.isAgg129
 z27:=Tryz.sizeOf129
 v27:=Tryz.zeroValue129
 t29:=Tryz.underlying9
 a29:=Tryz.isAgg9
 z29:=Tryz.sizeOf9
 v29:=Tryz.zeroValue9
 t32:=Tryz.underlying66
 a32:=Tryz.isAgg66
 z32:=Tryz.sizeOf66
 v32:=Tryz.zeroValue66
 t35:=Tryz.underlying369
 a35:=Tryz.isAgg369
 z35:=Tryz.sizeOf369
 v35:=Tryz.zeroValue369
 t36:=Tryz.underlying370
 a36:=Tryz.isAgg370
 z36:=Tryz.sizeOf370
 v36:=Tryz.zeroValue370
 t41:=Tryz.underlying374
 a41:=Tryz.isAgg374
 z41:=Tryz.sizeOf374
 v41:=Tryz.zeroValue374
 t44:=Tryz.underlying99
 a44:=Tryz.isAgg99
 z44:=Tryz.sizeOf99
 v44:=Tryz.zeroValue99
 t46:=Tryz.underlying211
 a46:=Tryz.isAgg211
 z46:=Tryz.sizeOf211
 v46:=Tryz.zeroValue211
 t53:=Tryz.underlying387
 a53:=Tryz.isAgg387
 z53:=Tryz.sizeOf387
 v53:=Tryz.zeroValue387
 t57:=Tryz.underlying391
 a57:=Tryz.isAgg391
 z57:=Tryz.sizeOf391
 v57:=Tryz.zeroValue391
 t63:=Tryz.underlying410
 a63:=Tryz.isAgg410
 z63:=Tryz.sizeOf410
 v63:=Tryz.zeroValue410
 t64:=Tryz.underlying411
 a64:=Tryz.isAgg411
 z64:=Tryz.sizeOf411
 v64:=Tryz.zeroValue411}
end Go.Proofs
namespace Go.Dx
open Go
def ob {α β:Type}(x:Option α)(f:α->Option β):Option β:=
 match x with
 | some v=>f v
 | none=>none
def bN {β:Type}(b:Bool)(k:Option β):Option β:=match b with
 | true=>k
 | false=>none
abbrev Lb:=List Bool
def km:Nat->Nat->Lb
 | 0,_=>[]
 | f+1,n=>if n==0 then [] else (n % 2==1)::km f (n / 2)
def pathOf (n:Nat):Lb:=km 64 n
def inc:Lb->Lb
 | []=>[true]
 | false::r=>true::r
 | true::r=>false::inc r
def na:Lb->Lb->Bool
 | [],[]=>true
 | true::a,true::b=>na a b
 | false::a,false::b=>na a b
 | _,_=>false
inductive T (α:Type) where
 | leaf
 | node (l:T α) (v:Option α) (r:T α)
def T.get {α:Type}:T α->Lb->Option α
 | .leaf,_=>none
 | .node _ v _,[]=>v
 | .node l _ _,false::p=>l.get p
 | .node _ _ r,true::p=>r.get p
def T.set {α:Type}:T α->Lb->Option α->T α
 | .leaf,[],x=>.node .leaf x .leaf
 | .leaf,false::p,x=>.node (T.set .leaf p x) none .leaf
 | .leaf,true::p,x=>.node .leaf none (T.set .leaf p x)
 | .node l _ r,[],x=>.node l x r
 | .node l v r,false::p,x=>.node (l.set p x) v r
 | .node l v r,true::p,x=>.node l v (r.set p x)
inductive Cap where
 | exact (c:Nat)
 | toEnd (size:Nat)
inductive V where
 | bool (b:Bool)
 | int (k:IntKind) (n:Int)
 | str (s:List Nat)
 | nilPtr
 | ptr (l:Lb) (off:Nat)
 | nilSlice (cap:Nat)
 | slice (l:Lb) (off:Nat) (len:Nat) (cap:Cap)
 | aP
 | map (r:Lb)
 | func (f:FuncId) (first captured:List V)
 | nilFunc
 | iface (t:TypeId) (v:V)
 | nilIface
 | agg (cells:List V)
 | tuple (vs:List V)
 | sym (l:Lb) (size:Nat)
 | any
 | empty
 | lG (lo hi:Int)
 deriving Inhabited
def undef:V:=.tuple []
def V.cells:V->List V
 | .agg cs=>cs
 | v=>[v]
def Pe:Value->Option V
 | .bool b=>some (.bool b)
 | .int k n=>some (.int k n)
 | .string s=>some (.str (s.data.toList.map (·.toNat)))
 | .pointer none=>some .nilPtr
 | .slice none 0 0=>some (.nilSlice 0)
 | .map none=>some .aP
 | .func (.func f) ⟨[]⟩ ⟨[]⟩=>some (.func f [] [])
 | .nilFunc=>some .nilFunc
 | .nilIface=>some .nilIface
 | .tuple ⟨[]⟩=>some (.tuple [])
 | _=>none
def Dl:List Value->Option (List V)
 | []=>some []
 | v::vs=>ob (Pe v) λd=>ob (Dl vs) λds=>some (d::ds)
def ofConst:Value->Option V
 | .agg cs=>ob (Dl cs.toList) λds=>some (.agg ds)
 | v=>Pe v
inductive Own where
 | no
 | yes
 | marked
def Own.may:Own->Bool
 | .no=>false
 | _=>true
inductive Obj where
 | cells (vs:List V) (elem:TypeId) (fz:Nat) (own:Own)
 | map (es:List (V×V×Nat)) (clock:Nat)
 | uw (s:List Nat) (pos:Nat)
 | mapIter (m:Option Lb) (since:Nat) (seen:List Nat) (aqz:Nat)
structure H where
 t:T Obj
 next:Lb
def H.get (h:H)(l:Lb):Option Obj:=h.t.get l
def H.set (h:H)(l:Lb)(o:Obj):H:={t:=h.t.set l (some o),next:=h.next}
def H.del (h:H)(l:Lb):H:={t:=h.t.set l none,next:=h.next}
def H.add (h:H)(o:Obj):H:={t:=h.t.set h.next (some o),next:=inc h.next}
def takeN:Nat->List V->Option (List V)
 | 0,_=>some []
 | n+1,v::vs=>ob (takeN n vs) λr=>some (v::r)
 | _+1,[]=>none
def bB:Nat->List V->List V
 | 0,vs=>vs
 | n+1,_::vs=>bB n vs
 | _+1,[]=>[]
def rowFrom (vs:List V)(i n:Nat):Option (List V):=takeN n (bB i vs)
def aX:List V->Nat->List V->Option (List V)
 | vs,0,[]=>some vs
 | _::vs,0,x::xs=>ob (aX vs 0 xs) λr=>some (x::r)
 | [],0,_::_=>none
 | v::vs,i+1,xs=>ob (aX vs i xs) λr=>some (v::r)
 | [],_+1,_=>none
def aG (z:List V):Nat->List V
 | 0=>[]
 | n+1=>z++aG z n
def gq:List Nat->List Nat->Bool
 | _,[]=>false
 | [],_::_=>true
 | a::x,b::y=>Nat.blt a b||(Nat.beq a b&&gq x y)
def eV:List Nat->List Nat->Bool
 | [],[]=>true
 | a::x,b::y=>Nat.beq a b&&eV x y
 | _,_=>false
def IK.top:IntKind->Nat
 | .i8 | .u8=>256
 | .i16 | .u16=>65536
 | .i32 | .u32=>4294967296
 | .i64 | .u64=>18446744073709551616
def IK.half:IntKind->Nat
 | .i8 | .u8=>128
 | .i16 | .u16=>32768
 | .i32 | .u32=>2147483648
 | .i64 | .u64=>9223372036854775808
def IK.sgn:IntKind->Bool
 | .i8 | .i16 | .i32 | .i64=>true
 | _=>false
def iT (top:Nat):Int->Nat
 | .ofNat m=>m % top
 | .negSucc m=>top - 1 - m % top
def Dm (sgn:Bool)(half top m:Nat):Int:=match sgn&&Nat.ble half m with
 | true=>Int.negSucc (top - 1 - m)
 | false=>Int.ofNat m
def bR (k:IntKind)(n:Int):Int:=Dm (IK.sgn k) (IK.half k) (IK.top k) (iT (IK.top k) n)
def ND (f:Nat->Nat->Nat) (k:IntKind) (x y:Int):V:=
 .int k (Dm (IK.sgn k) (IK.half k) (IK.top k) (f (iT (IK.top k) x) (iT (IK.top k) y)))
def ko:Int->Int->Bool
 | .ofNat a,.ofNat b=>Nat.blt a b
 | .ofNat _,.negSucc _=>false
 | .negSucc _,.ofNat _=>true
 | .negSucc a,.negSucc b=>Nat.blt b a
def oN:Int->Int->Bool
 | .ofNat a,.ofNat b=>Nat.beq a b
 | .negSucc a,.negSucc b=>Nat.beq a b
 | _,_=>false
def Fq:IntKind->IntKind->Bool
 | .i8,.i8 | .i16,.i16 | .i32,.i32 | .i64,.i64 | .u8,.u8 | .u16,.u16 | .u32,.u32 | .u64,.u64=>true
 | _,_=>false
def ct (op:BinOp)(k:IntKind)(x y:Int):Option V:=
 match op with
 | .add=>some (.int k (bR k (x+y)))
 | .sub=>some (.int k (bR k (x - y)))
 | .mul=>some (.int k (bR k (x*y)))
 | .quo=>bN (!oN y 0) (some (.int k (bR k (x.tdiv y))))
 | .rem=>bN (!oN y 0) (some (.int k (x.tmod y)))
 | .and=>some (ND Nat.land k x y)
 | .or=>some (ND Nat.lor k x y)
 | .xor=>some (ND Nat.xor k x y)
 | .andNot=>some (ND (λa b=>Nat.xor a (Nat.land a b)) k x y)
 | .eql=>some (.bool (oN x y))
 | .neq=>some (.bool (!oN x y))
 | .lss=>some (.bool (ko x y))
 | .leq=>some (.bool (!ko y x))
 | .gtr=>some (.bool (ko y x))
 | .geq=>some (.bool (!ko x y))
 | _=>none
def bitsOf:IntKind->Nat
 | .i8 | .u8=>8
 | .i16 | .u16=>16
 | .i32 | .u32=>32
 | .i64 | .u64=>64
def Iv (op:BinOp)(k:IntKind)(x y:Int):Option V:=
 match y with
 | .ofNat n=>match op,x with
   | .shl,.ofNat m=>some (.int k (bR k (Int.ofNat (Nat.shiftLeft m (Nat.min n (bitsOf k))))))
   | .shr,.ofNat m=>some (.int k (Int.ofNat (Nat.shiftRight m (Nat.min n (bitsOf k)))))
   | _,_=>none
 | .negSucc _=>none
def GX:BinOp->List Nat->List Nat->Option V
 | .add,x,y=>bN (Nat.blt (x.length+y.length) 9223372036854775807) (some (.str (x++y)))
 | .eql,x,y=>some (.bool (eV x y))
 | .neq,x,y=>some (.bool (!eV x y))
 | .lss,x,y=>some (.bool (gq x y))
 | .leq,x,y=>some (.bool (gq x y||eV x y))
 | .gtr,x,y=>some (.bool (!(gq x y||eV x y)))
 | .geq,x,y=>some (.bool (!gq x y))
 | _,_,_=>none
inductive X where
 | t (p:Lb)
 | c (v:V)
inductive PK where
 | bool
 | int
 | str
 | no
inductive EK where
 | bool
 | ptr
 | iface (lit:Bool)
 | slice
 | map
 | func
 | agg (ks:List PK)
 | none
inductive Rd where
 | one
 | many (n:Nat)
inductive PD where
 | pick (c a b:X)
 | build (zero:List V) (parts:List (Nat×Nat×X))
 | nilCheck (x:X)
 | bin (op:BinOp) (ek:EK) (x y:X)
 | un (op:UnOp) (x:X)
 | toInt (k:IntKind) (x:X)
 | Dn (x:X)
 | Dp (x:X)
 | Dq (t:TypeId) (x:X)
 | Jz (f:FuncId) (first captured:List X)
 | xy (x:X) (lo hi:Option X)
 | slice (size:Nat) (x:X) (lo hi mx:Option X)
 | xA (n size:Nat) (x:X) (lo hi mx:Option X)
 | fieldAddr (off:Nat) (x:X)
 | field (rd:Rd) (off:Nat) (x:X)
 | indexAddr (size:Nat) (x i:X)
 | kq (n size:Nat) (x i:X)
 | xB (x i:X)
 | Dr (rd:Rd) (n size:Nat) (x i:X)
 | ux (want:Array (String×TypeId)) (zero:V) (ok:Bool) (x:X)
 | Ds (t:TypeId) (zero:V) (ok:Bool) (x:X)
 | extract (i:Nat) (x:X)
 | JA (x:X)
 | xC (x:X)
 | JB (n:Nat)
 | cap (x:X)
 | abS (x y:X)
 | abT (x y:X)
 | mq (x:X)
 | abU (n:Nat) (x:X)
inductive RD where
 | load (rd:Rd) (x:X)
 | lookup (pk:PK) (zero:V) (ok:Bool) (m k:X)
 | bytesStr (x:X)
 | ptrUnsafe (x:X)
 | unsafePtr (u:TypeId) (n:Nat) (x:X)
 | mapLen (x:X)
 | fresh (t:TypeId) (cells:List V) (x:X)
 | freshS (e:TypeId) (cells:List V) (n:Nat) (x:X)
 | entry (x:X)
 | freshB (e:TypeId) (x s:X)
inductive ED where
 | store (n:Nat) (a x:X)
 | alloc (t:TypeId) (cells:List V)
 | box (t:TypeId) (x:X)
 | buildSlice (e:TypeId) (size n:Nat) (cells:List V) (parts:List (Nat×X))
 | cI (e:TypeId) (cells:List V) (n:Nat)
 | cY (e:TypeId) (x:X)
 | y' (x:X)
 | mr (e:TypeId) (x n:X)
 | makeMap
 | makeSlice (e:TypeId) (size bytes:Nat) (zero:List V) (n c:X)
 | mapUpdate (pk:PK) (m k x:X)
 | mapEntry (pk:PK) (zero:V) (m k:X)
 | entryStore (m s x:X)
 | Dt (x:X)
 | rangeMap (x:X)
 | next (x:X)
 | append (e:TypeId) (size bytes:Nat) (s x:X)
 | nf (e:TypeId) (size bytes:Nat) (zero:List V) (s n:X)
 | copy (size:Nat) (d s:X)
 | qb (x:X)
 | delete (pk:PK) (m k:X)
inductive CD where
 | func (f:FuncId) (args:List X)
 | value (f:X) (args:List X)
 | invoke (r:X) (name:String) (args:List X)
inductive D where
 | Rm (x:X)
 | p (d:PD)
 | r (d:RD)
 | e (d:ED)
 | c (d:CD)
 | defer (d:CD)
 | stuck
structure DO where
 dst:Option Lb
 op:D
 guard:Option (Lb×Bool)
structure A where
 tmps:T V
 defers:List (FuncId×List V)
def A.put (a:A):Option Lb->V->A
 | some d,v=>{tmps:=a.tmps.set d (some v),defers:=a.defers}
 | none,_=>a
def bS (tm:T V)(p:Lb):V:=match tm.get p with
 | some v=>v
 | none=>undef
def X.ev (tm:T V):X->V
 | .t p=>bS tm p
 | .c v=>v
def UX (tm:T V):List X->List V
 | []=>[]
 | x::xs=>x.ev tm::UX tm xs
def Rn (tm:T V):Option X->Option V
 | none=>none
 | some x=>some (x.ev tm)
def dI (rd:Rd)(cs:List V)(off:Nat):Option V:=match rd with
 | .one=>(bB off cs).head?
 | .many n=>ob (rowFrom cs off n) λr=>some (.agg r)
def nY (tm:T V):List (Nat×Nat×X)->List V->Option (List V)
 | [],cells=>some cells
 | (off,size,x)::r,cells=>
   let cs:=(x.ev tm).cells
   bN (Nat.beq cs.length size) (ob (aX cells off cs) (nY tm r))
def mO (a b:Bool):Bool:=match a with
 | true=>b
 | false=>!b
def gY (k:PK)(x y:V):Option Bool:=match k with
 | .bool=>match x,y with
   | .bool a,.bool b=>some (mO a b)
   | _,_=>none
 | .int=>match x,y with
   | .int j a,.int k b=>bN (Fq j k) (some (oN a b))
   | _,_=>none
 | .str=>match x,y with
   | .str a,.str b=>some (eV a b)
   | _,_=>none
 | .no=>none
def Fs:V->V->Option Bool
 | .bool a,.bool b=>some (mO a b)
 | _,_=>none
def xD:V->V->Option Bool
 | .nilPtr,.nilPtr=>some true
 | .nilPtr,.ptr _ _=>some false
 | .ptr _ _,.nilPtr=>some false
 | .ptr l a,.ptr m b=>bN (na l m) (some (Nat.beq a b))
 | _,_=>none
def mP (plain:TypeId->PK) (lit:Bool):V->V->Option Bool
 | .nilIface,.nilIface=>bN lit (some true)
 | .nilIface,.iface _ _=>some false
 | .iface _ _,.nilIface=>some false
 | .iface a x,.iface b y=>match Nat.beq a b with
   | false=>some false
   | true=>gY (plain a) x y
 | _,_=>none
def Iw:V->V->Option Bool
 | .nilSlice _,.nilSlice _=>some true
 | .nilSlice _,.empty=>some false
 | .empty,.nilSlice _=>some false
 | .nilSlice _,.slice _ _ _ _=>some false
 | .slice _ _ _ _,.nilSlice _=>some false
 | _,_=>none
def NG:V->V->Option Bool
 | .aP,.aP=>some true
 | .aP,.map _=>some false
 | .map _,.aP=>some false
 | _,_=>none
def Fu:V->V->Option Bool
 | .nilFunc,.nilFunc=>some true
 | .nilFunc,.func _ _ _=>some false
 | .func _ _ _,.nilFunc=>some false
 | _,_=>none
def du:List PK->List V->List V->Option Bool
 | [],[],[]=>some true
 | k::ks,a::x,b::y=>ob (gY k a b) λr=>ob (du ks x y) λq=>some (match r with | true=>q | false=>false)
 | _,_,_=>none
def RC (ks:List PK):V->V->Option Bool
 | .agg x,.agg y=>du ks x y
 | _,_=>none
def Je (plain:TypeId->PK) (k:EK) (x y:V):Option Bool:=match k with
 | .bool=>Fs x y
 | .ptr=>xD x y
 | .iface lit=>mP plain lit x y
 | .slice=>Iw x y
 | .map=>NG x y
 | .func=>Fu x y
 | .agg ks=>RC ks x y
 | .none=>none
def JC (op:BinOp)(a lo hi:Int):Option V:=match op with
 | .lss=>match ko a lo with
   | true=>some (.bool true)
   | false=>bN (!ko a hi) (some (.bool false))
 | .leq=>match ko hi a with
   | true=>some (.bool false)
   | false=>bN (!ko lo a) (some (.bool true))
 | .gtr=>match ko hi a with
   | true=>some (.bool true)
   | false=>bN (!ko lo a) (some (.bool false))
 | .geq=>match ko a lo with
   | true=>some (.bool false)
   | false=>bN (!ko a hi) (some (.bool true))
 | _=>none
def binOp (plain:TypeId->PK) (op:BinOp) (ek:EK):V->V->Option V
 | .int j a,.int k b=>match op with
   | .shl=>Iv .shl j a b
   | .shr=>Iv .shr j a b
   | op=>bN (Fq j k) (ct op j a b)
 | .str a,.str b=>GX op a b
 | .int .i64 a,.lG lo hi=>JC op a lo hi
 | .lG lo hi,.int .i64 a=>match op with
   | .lss=>JC .gtr a lo hi
   | .leq=>JC .geq a lo hi
   | .gtr=>JC .lss a lo hi
   | .geq=>JC .leq a lo hi
   | _=>none
 | x,y=>match op with
   | .eql=>ob (Je plain ek x y) λb=>some (.bool b)
   | .neq=>ob (Je plain ek x y) λb=>some (.bool (!b))
   | _=>none
def maxOf (k:IntKind):Int:=match IK.sgn k with
 | true=>Int.ofNat (IK.half k - 1)
 | false=>Int.ofNat (IK.top k - 1)
def allOnes (k:IntKind):Int:=match IK.sgn k with
 | true=>Int.negSucc 0
 | false=>maxOf k
def unOp (op:UnOp)(x:V):Option V:=
 match op,x with
 | .neg,.int k n=>ct .sub k 0 n
 | .xor,.int k n=>ct .xor k (allOnes k) n
 | .not,.bool b=>some (.bool (!b))
 | _,_=>none
def bound (v:V)(y:Nat):Option Nat:=match v with
 | .int _ (.ofNat i)=>bN (Nat.ble i y) (some i)
 | _=>none
def bD (o:Option V)(y arZ:Nat):Option Nat:=match o with
 | some v=>bound v y
 | none=>some arZ
def mw (s:List Nat)(lo hi:Option V):Option V:=
 ob (bD hi s.length s.length) λh=>ob (bD lo h 0) λl=>some (.str ((s.take h).drop l))
def sliceEnd (a:Lb)(off size l h m:Nat):V:=
 .slice a (match Nat.beq m l with | true=>off | false=>off+l*size) (h - l) (.exact (m - l))
def ez (size:Nat)(x:V)(lo hi mx:Option V):Option V:=match x with
 | .nilSlice c=>ob (bD mx c c) λm=>ob (bD hi m 0) λh=>ob (bD lo h 0) λl=>bN (Nat.beq h 0) (some (.nilSlice (m - l)))
 | .slice a off len (.exact c)=>ob (bD mx c c) λm=>ob (bD hi m len) λh=>ob (bD lo h 0) λl=>some (sliceEnd a off size l h m)
 | .slice a off len (.toEnd es)=>bN (Nat.beq es size) (match mx with
   | some v=>ob (bound v len) λm=>ob (bD hi m m) λh=>ob (bD lo h 0) λl=>some (sliceEnd a off size l h m)
   | none=>ob (bD hi len len) λh=>ob (bD lo h 0) λl=>match Nat.blt l len||Nat.beq l 0 with
     | true=>some (.slice a (off+l*size) (h - l) (.toEnd size))
     | false=>some .empty)
 | _=>none
def uy (n size:Nat)(x:V)(lo hi mx:Option V):Option V:=match x with
 | .ptr a off=>ob (bD mx n n) λm=>ob (bD hi m n) λh=>ob (bD lo h 0) λl=>some (sliceEnd a off size l h m)
 | _=>none
def JD (v:V)(n:Nat):Option Nat:=match v with
 | .int _ (.ofNat i)=>bN (Nat.blt i n) (some i)
 | _=>none
def rD (size:Nat)(x i:V):Option V:=match x with
 | .slice a off len _=>ob (JD i len) λi=>some (.ptr a (off+i*size))
 | _=>none
def uz (n size:Nat)(x i:V):Option V:=match x with
 | .ptr a off=>ob (JD i n) λi=>some (.ptr a (off+i*size))
 | _=>none
def uA (x i:V):Option V:=match x,i with
 | .str s,.int _ (.ofNat i)=>ob (s[i]?) λb=>some (.int .u8 (Int.ofNat b))
 | _,_=>none
def BS (rd:Rd)(n size:Nat)(x i:V):Option V:=match x with
 | .agg cs=>ob (JD i n) λi=>dI rd cs (i*size)
 | _=>none
def okV (ok:Bool)(v:V)(b:Bool):V:=match ok with
 | true=>.tuple [v,.bool b]
 | false=>v
def za (t:TypeId)(zero:V)(ok:Bool)(x:V):Option V:=match x with
 | .nilIface=>bN ok (some (okV true zero false))
 | .iface u v=>match Nat.beq u t with
   | true=>some (okV ok v true)
   | false=>bN ok (some (okV true zero false))
 | _=>none
def zb (has:TypeId->Option Bool) (zero:V) (ok:Bool) (x:V):Option V:=match x with
 | .nilIface=>bN ok (some (okV true zero false))
 | .iface u v=>ob (has u) λb=>match b with
   | true=>some (okV ok (.iface u v) true)
   | false=>bN ok (some (okV true zero false))
 | _=>none
def Du:V->Option V
 | .str s=>some (.int .i64 (Int.ofNat s.length))
 | _=>none
def uB:V->Option V
 | .slice _ _ n _=>some (.int .i64 (Int.ofNat n))
 | .nilSlice _=>some (.int .i64 (Int.ofNat 0))
 | .empty=>some (.int .i64 (Int.ofNat 0))
 | _=>none
def Xx:V->Option V
 | .slice _ _ _ (.exact c)=>some (.int .i64 (Int.ofNat c))
 | .nilSlice c=>some (.int .i64 (Int.ofNat c))
 | _=>none
def GY (b:Bool)(x y:Int):Int:=match b with
 | true=>x
 | false=>y
def Xy:V->V->Option V
 | .int k x,.int _ y=>some (.int k (GY (ko x y) y x))
 | _,_=>none
def Xz:V->V->Option V
 | .int k x,.int _ y=>some (.int k (GY (ko y x) y x))
 | _,_=>none
def nh:V->Option V
 | .nilSlice _=>some .nilPtr
 | .slice a off _ (.exact (_+1))=>some (.ptr a off)
 | .slice a off (_+1) (.toEnd _)=>some (.ptr a off)
 | _=>none
def RR (n:Nat):V->Option V
 | .slice a off len _=>bN (Nat.ble n len) (some (.ptr a off))
 | _=>none
def uC:V->Option V
 | .ptr a off=>some (.ptr a off)
 | .func f a b=>some (.func f a b)
 | _=>none
def Fv:V->Option V
 | .str s=>some (.str s)
 | _=>none
def zd (i:Nat):V->Option V
 | .tuple vs=>vs[i]?
 | _=>none
mutual
def sO:V->V->Bool
 | .bool a,.bool b=>match a with | true=>b | false=>!b
 | .int j a,.int k b=>Fq j k&&oN a b
 | .str a,.str b=>eV a b
 | .nilPtr,.nilPtr=>true
 | .ptr l a,.ptr m b=>na l m&&Nat.beq a b
 | .nilSlice a,.nilSlice b=>Nat.beq a b
 | .slice l a n c,.slice m b k d=>na l m&&Nat.beq a b&&Nat.beq n k&&(match c,d with
   | .exact c,.exact d=>Nat.beq c d
   | .toEnd c,.toEnd d=>Nat.beq c d
   | _,_=>false)
 | .aP,.aP=>true
 | .map a,.map b=>na a b
 | .func f a b,.func g c d=>Nat.beq f g&&wq a c&&wq b d
 | .nilFunc,.nilFunc=>true
 | .iface t a,.iface u b=>Nat.beq t u&&sO a b
 | .nilIface,.nilIface=>true
 | .agg a,.agg b=>wq a b
 | .tuple a,.tuple b=>wq a b
 | .sym a n,.sym b m=>na a b&&Nat.beq n m
 | .empty,.empty=>true
 | .any,.any=>true
 | .lG a b,.lG c d=>oN a c&&oN b d
 | _,_=>false
def wq:List V->List V->Bool
 | [],[]=>true
 | a::x,b::y=>sO a b&&wq x y
 | _,_=>false
end
inductive Q where
 | load (rd:Rd) (l:Lb) (off:Nat)
 | lookup (pk:PK) (zero:V) (ok:Bool) (m k:V)
 | bytes (x:V)
 | row (l:Lb) (off:Nat)
 | whole (u:TypeId) (n:Nat) (l:Lb) (off:Nat)
 | mapLen (m:V)
 | fresh (t:TypeId) (cells:List V) (l:Lb) (off:Nat)
 | freshS (t:TypeId) (cells:List V) (n:Nat) (l:Lb) (off:Nat)
 | freshB (e:TypeId) (cells:List V) (n:Nat) (l:Lb) (off:Nat)
 | entry (l:Lb) (off:Nat)
def NH (b:Nat):List (V×V×Nat)->Option (V×V)
 | []=>none
 | (k,v,c)::es=>match Nat.beq c b with
   | true=>some (k,v)
   | false=>NH b es
def RS:List Nat->Option Nat
 | []=>none
 | [x]=>some x
 | _::r=>RS r
def rE (pk:PK)(k:V):List (V×V×Nat)->Option (Option (Nat×V))
 | []=>some none
 | (x,v,_)::es=>ob (gY pk k x) λb=>match b with
   | true=>some (some (0,v))
   | false=>ob (rE pk k es) λr=>some (match r with | some (i,v)=>some (i+1,v) | none=>none)
def mQ:List V->Option (List Nat)
 | []=>some []
 | .int .u8 (.ofNat n)::r=>bN (Nat.blt n 256) (ob (mQ r) λl=>some (n::l))
 | _::_=>none
def Q.ask (h:H):Q->Option V
 | .load rd l off=>match h.get l with
   | some (.cells vs _ _ _)=>dI rd vs off
   | _=>none
 | .lookup pk z ok m k=>match m with
   | .aP=>some (match ok with | true=>.tuple [z,.bool false] | false=>z)
   | .map r=>match h.get r with
     | some (.map es _)=>ob (rE pk k es) λr=>some (match r with
       | some (_,v)=>okV ok v true
       | none=>okV ok z false)
     | _=>none
   | _=>none
 | .bytes x=>match x with
   | .nilSlice _=>some (.str [])
   | .slice l off n _=>match h.get l with
     | some (.cells vs _ _ _)=>ob (rowFrom vs off n) λr=>ob (mQ r) λb=>some (.str b)
     | _=>none
   | .empty=>some (.str [])
   | _=>none
 | .row l off=>match h.get l with
   | some (.cells vs _ _ _)=>bN (Nat.blt off vs.length) (some (.ptr l off))
   | _=>none
 | .whole u n l off=>match h.get l with
   | some (.cells vs e _ _)=>bN (Nat.beq e u&&Nat.beq vs.length n&&Nat.beq off 0) (some (.ptr l off))
   | _=>none
 | .mapLen m=>match m with
   | .aP=>some (.int .i64 (Int.ofNat 0))
   | .map m=>match h.get m with
     | some (.map es _)=>some (.int .i64 (Int.ofNat es.length))
     | _=>none
   | _=>none
 | .fresh t cs l off=>match h.get l with
   | some (.cells vs e 0 .yes)=>bN (Nat.beq e t&&wq vs cs&&Nat.beq off 0) (some (.ptr l 0))
   | _=>none
 | .freshS t cs n l off=>match h.get l with
   | some (.cells vs e 0 .yes)=>bN (Nat.beq e t&&wq vs cs&&Nat.beq off 0) (some (.slice l 0 n (.exact n)))
   | _=>none
 | .freshB t cs n l off=>match h.get l with
   | some (.cells vs e 0 .marked)=>bN (Nat.beq e t&&wq vs cs&&Nat.beq off 0) (some (.slice l 0 n (.toEnd 1)))
   | _=>none
 | .entry l off=>match h.get l with
   | some (.mapIter (some m) _ seen last)=>match h.get m with
     | some (.map es clock)=>bN (Nat.beq off 0&&Nat.beq clock last) (ob (RS seen) λb=>ob (NH b es) λe=>some (.tuple [e.1,e.2]))
     | _=>none
   | _=>none
def eD (f:Lb->Nat->Q):V->Option Q
 | .ptr a off=>some (f a off)
 | _=>none
def plainKey:PK->V->Bool
 | .str,.str _=>true
 | .int,.int _ _=>true
 | _,_=>false
def bU:V->Bool
 | .agg _=>false
 | .tuple _=>false
 | _=>true
def bd:List V->Bool
 | []=>true
 | v::vs=>bU v&&bd vs
def eb (h:H)(l:Lb)(off:Nat)(cs:List V):Option H:=
 match h.get l with
 | some (.cells vs e fz own)=>bN (own.may&&Nat.ble fz off&&bd cs) (ob (aX vs off cs) λvs'=>some (h.set l (.cells vs' e fz own)))
 | _=>none
def ae:List Nat->List V
 | []=>[]
 | b::r=>.int .u8 (Int.ofNat b)::ae r
def de (h:H)(size:Nat):V->Option (Nat×List V)
 | .nilSlice _=>some (0,[])
 | .slice l off n _=>match h.get l with
   | some (.cells vs _ _ _)=>ob (rowFrom vs off (n*size)) λr=>some (n,r)
   | _=>none
 | .str s=>bN (Nat.beq size 1) (some (s.length,ae s))
 | .empty=>some (0,[])
 | _=>none
def bz:Nat:=1099511627776
def jd:Nat:=562949953421312
def eH (h:H)(e:TypeId)(size bytes:Nat)(s:V)(n:Nat)(new:List V):Option (V×H):=
 match s with
 | .nilSlice c=>match Nat.ble n c with
   | true=>bN (Nat.beq n 0) (some (.nilSlice c,h))
   | false=>bN (Nat.ble (4*n*bytes) jd) (some (.slice h.next 0 n (.toEnd size),h.add (.cells new e 0 .yes)))
 | .slice l off len cap=>bN (Nat.ble (4*(len+n)*bytes) jd) (match cap with
   | .exact c=>match Nat.ble (len+n) c with
     | true=>ob (eb h l (off+len*size) new) λh'=>some (.slice l off (len+n) (.exact c),h')
     | false=>match h.get l with
       | some (.cells vs _ _ _)=>bN (Nat.blt 0 n) <| ob (rowFrom vs off (len*size)) λold=>some (.slice h.next 0 (len+n) (.toEnd size),h.add (.cells (old++new) e 0 .yes))
       | _=>none
   | .toEnd es=>bN (Nat.beq es size) (match h.get l with
     | some (.cells vs el fz own)=>bN (own.may&&Nat.beq el e) (match Nat.ble (off+(len+n)*size) vs.length with
       | true=>ob (eb h l (off+len*size) new) λh'=>some (.slice l off (len+n) (.toEnd size),h')
       | false=>bN (Nat.beq off 0&&Nat.beq (off+len*size) vs.length&&Nat.ble fz vs.length&&bd new)
         (some (.slice h.next 0 (len+n) (.toEnd size),(h.del l).add (.cells (bB off vs++new) e (fz - off) own))))
     | _=>none))
 | _=>none
def kr:List (V×V×Nat)->Nat->V->V->List (V×V×Nat)
 | [],_,_,_=>[]
 | (_,_,b)::es,0,k,v=>(k,v,b)::es
 | e::es,i+1,k,v=>e::kr es i k v
def JE:List (V×V×Nat)->Nat->Nat
 | [],_=>0
 | (_,_,b)::_,0=>b
 | _::es,i+1=>JE es i
def JF (pk:PK)(k v:V)(es:List (V×V×Nat))(clock:Nat):Option Obj:=
 ob (rE pk k es) λr=>match r with
  | some (i,_)=>some (.map (kr es i k v) clock)
  | none=>some (.map (es++[(k,v,clock)]) (clock+1))
def uD:List (V×V×Nat)->Nat->V->Option (List (V×V×Nat))
 | [],_,_=>none
 | (k,w,b)::es,born,v=>match Nat.beq b born with
   | true=>some ((k,v,b)::es)
   | false=>ob (uD es born v) λr=>some ((k,w,b)::r)
def gM (h:H)(m:V)(f:Lb->List (V×V×Nat)->Nat->Option (V×H)):Option (V×H):=match m with
 | .map r=>match h.get r with
   | some (.map es clock)=>f r es clock
   | _=>none
 | _=>none
def dV (tm:T V)(size:Nat):List (Nat×X)->List V->Option (List V)
 | [],cells=>some cells
 | (i,x)::r,cells=>
   let cs:=(x.ev tm).cells
   bN (Nat.beq cs.length size) (ob (aX cells (i*size) cs) (dV tm size r))
def BU (h:H)(e:TypeId)(size bytes:Nat)(zero:List V)(n c:V):Option (V×H):=match n,c with
 | .int .i64 (.ofNat n),.int .i64 (.ofNat c)=>
   bN (Nat.ble n c&&Nat.ble (c*bytes) bz&&Nat.ble c 1048576&&Nat.beq zero.length size&&Nat.blt 0 size) (some (.slice h.next 0 n (.exact c),h.add (.cells (aG zero c) e 0 .yes)))
 | _,_=>none
def ni:List (V×V×Nat)->Nat->List (V×V×Nat)
 | [],_=>[]
 | _::es,0=>es
 | e::es,i+1=>e::ni es i
def ze (n:Nat):List (V×V×Nat)->Bool
 | []=>true
 | (_,_,b)::es=>Nat.ble n b&&ze n es
def dp (n:Nat):List Nat->Bool
 | []=>false
 | m::l=>Nat.beq n m||dp n l
def leftOf (seen:List Nat):List (V×V×Nat)->List (V×V×Nat)
 | []=>[]
 | (k,v,b)::es=>match dp b seen with
   | true=>leftOf seen es
   | false=>(k,v,b)::leftOf seen es
def ahw (h:H)(l:Lb):Option (V×H):=match h.get l with
 | some (.mapIter none _ _ _)=>some (.tuple [.bool false],h)
 | some (.mapIter (some m) since seen last)=>match h.get m with
   | some (.map es clock)=>bN (seen.isEmpty||es.isEmpty || !ze last es) (match leftOf seen es with
     | []=>some (.tuple [.bool false],h)
     | [(k,v,b)]=>bN (Nat.blt b since) (some (.tuple [.bool true,k,v],h.set l (.mapIter (some m) since (seen++[b]) clock)))
     | _=>none)
   | _=>none
 | _=>none
def uE (h:H)(e:TypeId)(x n:V):Option (V×H):=match x,n with
 | .nilPtr,.int .i64 (.ofNat 0)=>some (.str [],h)
 | .ptr _ _,.int .i64 (.ofNat 0)=>some (.str [],h)
 | .ptr l 0,.int .i64 (.ofNat (n+1))=>match h.get l with
   | some (.cells vs el fz .yes)=>bN (Nat.beq el e&&Nat.ble n 1048576) (ob (takeN (n+1) vs) λr=>ob (mQ r) λb=>some (.str b,h.set l (.cells vs el (Nat.max fz (n+1)) .yes)))
   | _=>none
 | _,_=>none
def copyV (h:H)(size:Nat)(d s:V):Option (V×H):=ob (de h size s) λr=>match d with
 | .nilSlice _=>some (.int .i64 0,h)
 | .slice l off len _=>ob (takeN (Nat.min r.1 len*size) r.2) λcs=>match cs with
   | []=>some (.int .i64 (Int.ofNat (Nat.min r.1 len)),h)
   | c::cs=>ob (eb h l off (c::cs)) λh'=>some (.int .i64 (Int.ofNat (Nat.min r.1 len)),h')
 | _=>none
structure Env where
 plain:TypeId->PK
 has:Array (String×TypeId)->TypeId->Option Bool
 am0:TypeId->String->Option FuncId
def PD.eval (E:Env)(tm:T V):PD->Option V
 | .pick c a b=>match c.ev tm with
   | .bool true=>some (a.ev tm)
   | .bool false=>some (b.ev tm)
   | _=>none
 | .build z ps=>ob (nY tm ps z) λcs=>some (.agg cs)
 | .nilCheck x=>uC (x.ev tm)
 | .bin op ek x y=>binOp E.plain op ek (x.ev tm) (y.ev tm)
 | .un op x=>unOp op (x.ev tm)
 | .toInt k x=>match x.ev tm with
   | .int _ n=>some (.int k (bR k n))
   | _=>none
 | .Dn x=>match x.ev tm with
   | .int _ n=>some (.str ((Utf8.encode n).data.toList.map (·.toNat)))
   | _=>none
 | .Dp x=>Fv (x.ev tm)
 | .Dq t x=>some (.iface t (x.ev tm))
 | .Jz f a b=>some (.func f (UX tm a) (UX tm b))
 | .xy x lo hi=>match x.ev tm with
   | .str s=>mw s (Rn tm lo) (Rn tm hi)
   | _=>none
 | .slice size x lo hi mx=>ez size (x.ev tm) (Rn tm lo) (Rn tm hi) (Rn tm mx)
 | .xA n size x lo hi mx=>uy n size (x.ev tm) (Rn tm lo) (Rn tm hi) (Rn tm mx)
 | .fieldAddr o x=>match x.ev tm with
   | .ptr a off=>some (.ptr a (off+o))
   | _=>none
 | .field rd o x=>match x.ev tm with
   | .agg cs=>dI rd cs o
   | _=>none
 | .indexAddr size x i=>rD size (x.ev tm) (i.ev tm)
 | .kq n size x i=>uz n size (x.ev tm) (i.ev tm)
 | .xB x i=>uA (x.ev tm) (i.ev tm)
 | .Dr rd n size x i=>BS rd n size (x.ev tm) (i.ev tm)
 | .ux w z ok x=>zb (E.has w) z ok (x.ev tm)
 | .Ds t z ok x=>za t z ok (x.ev tm)
 | .extract i x=>zd i (x.ev tm)
 | .JA x=>Du (x.ev tm)
 | .xC x=>uB (x.ev tm)
 | .JB n=>some (.int .i64 (Int.ofNat n))
 | .cap x=>Xx (x.ev tm)
 | .abS x y=>Xy (x.ev tm) (y.ev tm)
 | .abT x y=>Xz (x.ev tm) (y.ev tm)
 | .mq x=>nh (x.ev tm)
 | .abU n x=>RR n (x.ev tm)
def RD.oO (tm:T V):RD->Option Q
 | .load rd x=>eD (.load rd) (x.ev tm)
 | .lookup pk z ok m k=>bN (plainKey pk (k.ev tm)) (some (.lookup pk z ok (m.ev tm) (k.ev tm)))
 | .bytesStr x=>some (.bytes (x.ev tm))
 | .ptrUnsafe x=>eD .row (x.ev tm)
 | .unsafePtr u n x=>eD (.whole u n) (x.ev tm)
 | .mapLen x=>some (.mapLen (x.ev tm))
 | .fresh t cs x=>eD (.fresh t cs) (x.ev tm)
 | .freshS t cs n x=>eD (.freshS t cs n) (x.ev tm)
 | .entry x=>eD .entry (x.ev tm)
 | .freshB e x s=>match x.ev tm with
   | .str b=>bN (Nat.ble b.length 9223372036854775807) (eD (λl off=>.freshB e (ae b) b.length l off) (s.ev tm))
   | _=>none
def ED.run (tm:T V)(h:H):ED->Option (V×H)
 | .store n a x=>match a.ev tm with
   | .ptr l off=>let cs:=(x.ev tm).cells;bN (Nat.beq cs.length n) (ob (eb h l off cs) λh'=>some (undef,h'))
   | _=>none
 | .alloc t cs=>some (.ptr h.next 0,h.add (.cells cs t 0 .yes))
 | .box t x=>some (.ptr h.next 0,h.add (.cells (x.ev tm).cells t 0 .yes))
 | .buildSlice e size n cs ps=>ob (dV tm size ps cs) λcs=>some (.slice h.next 0 n (.exact n),h.add (.cells cs e 0 .yes))
 | .cI e cs n=>some (.slice h.next 0 n (.exact n),h.add (.cells cs e 0 .yes))
 | .cY e x=>match x.ev tm with
   | .str b=>bN (Nat.ble b.length 9223372036854775807) (some (.slice h.next 0 b.length (.toEnd 1),h.add (.cells (ae b) e 0 .marked)))
   | _=>none
 | .y' x=>match x.ev tm with
   | .slice l off n c=>match h.get l with
     | some (.cells vs e 0 .yes)=>some (.slice l off n c,h.set l (.cells vs e 0 .marked))
     | _=>none
   | _=>none
 | .mr e x n=>uE h e (x.ev tm) (n.ev tm)
 | .makeMap=>some (.map h.next,h.add (.map [] 0))
 | .makeSlice e size bytes z n c=>BU h e size bytes z (n.ev tm) (c.ev tm)
 | .mapUpdate pk m k x=>bN (plainKey pk (k.ev tm)) (gM h (m.ev tm) λr es clock=>ob (JF pk (k.ev tm) (x.ev tm) es clock) λo=>some (undef,h.set r o))
 | .mapEntry pk z m k=>bN (plainKey pk (k.ev tm)) (gM h (m.ev tm) λr es clock=>ob (rE pk (k.ev tm) es) λf=>match f with
   | some (i,v)=>some (.tuple [v,.int .i64 (Int.ofNat (JE es i))],h.set r (.map (kr es i (k.ev tm) v) clock))
   | none=>some (.tuple [z,.int .i64 (Int.ofNat clock)],h.set r (.map (es++[(k.ev tm,z,clock)]) (clock+1))))
 | .entryStore m s x=>gM h (m.ev tm) λr es clock=>match s.ev tm with
   | .int _ (.ofNat b)=>ob (uD es b (x.ev tm)) λse=>some (undef,h.set r (.map se clock))
   | _=>none
 | .Dt x=>match x.ev tm with
   | .str s=>some (.ptr h.next 0,h.add (.uw s 0))
   | _=>none
 | .rangeMap x=>match x.ev tm with
   | .aP=>some (.ptr h.next 0,h.add (.mapIter none 0 [] 0))
   | .map m=>match h.get m with
     | some (.map _ clock)=>some (.ptr h.next 0,h.add (.mapIter (some m) clock [] clock))
     | _=>none
   | _=>none
 | .next x=>match x.ev tm with
   | .ptr l 0=>ahw h l
   | _=>none
 | .append e size bytes s x=>ob (de h size (x.ev tm)) λr=>eH h e size bytes (s.ev tm) r.1 r.2
 | .nf e size bytes z s n=>match n.ev tm with
   | .int .i64 (.ofNat n)=>bN (Nat.ble n 1048576&&Nat.ble (n*bytes) bz) (eH h e size bytes (s.ev tm) n (aG z n))
   | _=>none
 | .copy size d s=>copyV h size (d.ev tm) (s.ev tm)
 | .qb x=>match x.ev tm with
   | .aP=>some (undef,h)
   | m=>gM h m λr _ clock=>some (undef,h.set r (.map [] clock))
 | .delete pk m k=>bN (plainKey pk (k.ev tm)) (gM h (m.ev tm) λr es clock=>ob (rE pk (k.ev tm) es) λf=>match f with
   | some (i,_)=>some (undef,h.set r (.map (ni es i) clock))
   | none=>some (undef,h))
def CD.args (E:Env)(tm:T V):CD->Option (FuncId×List V)
 | .func f args=>some (f,UX tm args)
 | .value f args=>match f.ev tm with
   | .func f a b=>some (f,a++UX tm args++b)
   | _=>none
 | .invoke r name args=>match r.ev tm with
   | .iface t v=>ob (E.am0 t name) λf=>some (f,v::UX tm args)
   | _=>none
end Go.Dx
