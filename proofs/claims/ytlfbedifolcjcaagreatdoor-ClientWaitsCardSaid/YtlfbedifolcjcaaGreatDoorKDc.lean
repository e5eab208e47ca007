/-
  Each function of the table is what the machine makes of the program's.
-/
import Derived.Test.YtlfbedifolcjcaaGreatDoorKDb
import Derived.Test.YtlfbedifolcjcaaGreatDoorDxFns
import Derived.Test.YtlfbedifolcjcaaGreatDoorProg
import Derived.KernelRfl
namespace KD
open Go Go.Dx Go.Proofs
theorem c4 : compFn Tryz.prog 8 Tryz.f4 = some d4 := by kernel_rfl
theorem c6 : compFn Tryz.prog 8 Tryz.f6 = some d6 := by kernel_rfl
theorem c7 : compFn Tryz.prog 8 Tryz.f7 = some d7 := by kernel_rfl
theorem c8 : compFn Tryz.prog 8 Tryz.f8 = some d8 := by kernel_rfl
theorem c9 : compFn Tryz.prog 8 Tryz.f9 = some d9 := by kernel_rfl
theorem c10 : compFn Tryz.prog 8 Tryz.f10 = some d10 := by kernel_rfl
theorem c11 : compFn Tryz.prog 8 Tryz.f11 = some d11 := by kernel_rfl
theorem c12 : compFn Tryz.prog 8 Tryz.f12 = some d12 := by kernel_rfl
theorem c13 : compFn Tryz.prog 8 Tryz.f13 = some d13 := by kernel_rfl
theorem c14 : compFn Tryz.prog 8 Tryz.f14 = some d14 := by kernel_rfl
theorem c15 : compFn Tryz.prog 8 Tryz.f15 = some d15 := by kernel_rfl
theorem c16 : compFn Tryz.prog 8 Tryz.f16 = some d16 := by kernel_rfl
theorem c18 : compFn Tryz.prog 8 Tryz.f18 = some d18 := by kernel_rfl
theorem c19 : compFn Tryz.prog 8 Tryz.f19 = some d19 := by kernel_rfl
theorem c20 : compFn Tryz.prog 8 Tryz.f20 = some d20 := by kernel_rfl
theorem c21 : compFn Tryz.prog 8 Tryz.f21 = some d21 := by kernel_rfl
theorem c22 : compFn Tryz.prog 8 Tryz.f22 = some d22 := by kernel_rfl
theorem c23 : compFn Tryz.prog 8 Tryz.f23 = some d23 := by kernel_rfl
theorem c24 : compFn Tryz.prog 8 Tryz.f24 = some d24 := by kernel_rfl
theorem c26 : compFn Tryz.prog 8 Tryz.f26 = some d26 := by kernel_rfl
theorem c27 : compFn Tryz.prog 8 Tryz.f27 = some d27 := by kernel_rfl
theorem c28 : compFn Tryz.prog 8 Tryz.f28 = some d28 := by kernel_rfl
theorem c29 : compFn Tryz.prog 8 Tryz.f29 = some d29 := by kernel_rfl
theorem c30 : compFn Tryz.prog 8 Tryz.f30 = some d30 := by kernel_rfl
theorem c31 : compFn Tryz.prog 8 Tryz.f31 = some d31 := by kernel_rfl
theorem c34 : compFn Tryz.prog 8 Tryz.f34 = some d34 := by kernel_rfl
theorem c35 : compFn Tryz.prog 8 Tryz.f35 = some d35 := by kernel_rfl
theorem c36 : compFn Tryz.prog 8 Tryz.f36 = some d36 := by kernel_rfl
theorem c37 : compFn Tryz.prog 8 Tryz.f37 = some d37 := by kernel_rfl
theorem c38 : compFn Tryz.prog 8 Tryz.f38 = some d38 := by kernel_rfl
theorem c43 : compFn Tryz.prog 8 Tryz.f43 = some d43 := by kernel_rfl
theorem c44 : compFn Tryz.prog 8 Tryz.f44 = some d44 := by kernel_rfl
theorem c45 : compFn Tryz.prog 8 Tryz.f45 = some d45 := by kernel_rfl
theorem c46 : compFn Tryz.prog 8 Tryz.f46 = some d46 := by kernel_rfl
theorem c47 : compFn Tryz.prog 8 Tryz.f47 = some d47 := by kernel_rfl
theorem c48 : compFn Tryz.prog 8 Tryz.f48 = some d48 := by kernel_rfl
theorem c49 : compFn Tryz.prog 8 Tryz.f49 = some d49 := by kernel_rfl
theorem c50 : compFn Tryz.prog 8 Tryz.f50 = some d50 := by kernel_rfl
theorem c51 : compFn Tryz.prog 8 Tryz.f51 = some d51 := by kernel_rfl
theorem c52 : compFn Tryz.prog 8 Tryz.f52 = some d52 := by kernel_rfl
theorem c53 : compFn Tryz.prog 8 Tryz.f53 = some d53 := by kernel_rfl
theorem c54 : compFn Tryz.prog 8 Tryz.f54 = some d54 := by kernel_rfl
theorem c55 : compFn Tryz.prog 8 Tryz.f55 = some d55 := by kernel_rfl
theorem c56 : compFn Tryz.prog 8 Tryz.f56 = some d56 := by kernel_rfl
theorem c57 : compFn Tryz.prog 8 Tryz.f57 = some d57 := by kernel_rfl
theorem c63 : compFn Tryz.prog 8 Tryz.f63 = some d63 := by kernel_rfl
theorem c64 : compFn Tryz.prog 8 Tryz.f64 = some d64 := by kernel_rfl
theorem c65 : compFn Tryz.prog 8 Tryz.f65 = some d65 := by kernel_rfl
theorem c66 : compFn Tryz.prog 8 Tryz.f66 = some d66 := by kernel_rfl
theorem c67 : compFn Tryz.prog 8 Tryz.f67 = some d67 := by kernel_rfl
theorem c69 : compFn Tryz.prog 8 Tryz.f69 = some d69 := by kernel_rfl
theorem c71 : compFn Tryz.prog 8 Tryz.f71 = some d71 := by kernel_rfl
theorem c73 : compFn Tryz.prog 8 Tryz.f73 = some d73 := by kernel_rfl
theorem c74 : compFn Tryz.prog 8 Tryz.f74 = some d74 := by kernel_rfl
theorem c75 : compFn Tryz.prog 8 Tryz.f75 = some d75 := by kernel_rfl
theorem c76 : compFn Tryz.prog 8 Tryz.f76 = some d76 := by kernel_rfl
theorem c77 : compFn Tryz.prog 8 Tryz.f77 = some d77 := by kernel_rfl
theorem c83 : compFn Tryz.prog 8 Tryz.f83 = some d83 := by kernel_rfl
theorem c84 : compFn Tryz.prog 8 Tryz.f84 = some d84 := by kernel_rfl
theorem c85 : compFn Tryz.prog 8 Tryz.f85 = some d85 := by kernel_rfl
theorem c86 : compFn Tryz.prog 8 Tryz.f86 = some d86 := by kernel_rfl
theorem c87 : compFn Tryz.prog 8 Tryz.f87 = some d87 := by kernel_rfl
theorem c88 : compFn Tryz.prog 8 Tryz.f88 = some d88 := by kernel_rfl
theorem c89 : compFn Tryz.prog 8 Tryz.f89 = some d89 := by kernel_rfl
theorem c90 : compFn Tryz.prog 8 Tryz.f90 = some d90 := by kernel_rfl
theorem c91 : compFn Tryz.prog 8 Tryz.f91 = some d91 := by kernel_rfl
theorem c92 : compFn Tryz.prog 8 Tryz.f92 = some d92 := by kernel_rfl
theorem c93 : compFn Tryz.prog 8 Tryz.f93 = some d93 := by kernel_rfl
theorem c94 : compFn Tryz.prog 8 Tryz.f94 = some d94 := by kernel_rfl
theorem c95 : compFn Tryz.prog 8 Tryz.f95 = some d95 := by kernel_rfl
theorem c96 : compFn Tryz.prog 8 Tryz.f96 = some d96 := by kernel_rfl
theorem c97 : compFn Tryz.prog 8 Tryz.f97 = some d97 := by kernel_rfl
theorem c98 : compFn Tryz.prog 8 Tryz.f98 = some d98 := by kernel_rfl
theorem c99 : compFn Tryz.prog 8 Tryz.f99 = some d99 := by kernel_rfl
theorem c100 : compFn Tryz.prog 8 Tryz.f100 = some d100 := by kernel_rfl
theorem c101 : compFn Tryz.prog 8 Tryz.f101 = some d101 := by kernel_rfl
theorem c102 : compFn Tryz.prog 8 Tryz.f102 = some d102 := by kernel_rfl
theorem c103 : compFn Tryz.prog 8 Tryz.f103 = some d103 := by kernel_rfl
theorem c104 : compFn Tryz.prog 8 Tryz.f104 = some d104 := by kernel_rfl
theorem c105 : compFn Tryz.prog 8 Tryz.f105 = some d105 := by kernel_rfl
theorem c106 : compFn Tryz.prog 8 Tryz.f106 = some d106 := by kernel_rfl
theorem c109 : compFn Tryz.prog 8 Tryz.f109 = some d109 := by kernel_rfl
theorem c110 : compFn Tryz.prog 8 Tryz.f110 = some d110 := by kernel_rfl
theorem c116 : compFn Tryz.prog 8 Tryz.f116 = some d116 := by kernel_rfl
theorem c117 : compFn Tryz.prog 8 Tryz.f117 = some d117 := by kernel_rfl
theorem c125 : compFn Tryz.prog 8 Tryz.f125 = some d125 := by kernel_rfl
theorem c126 : compFn Tryz.prog 8 Tryz.f126 = some d126 := by kernel_rfl
theorem c127 : compFn Tryz.prog 8 Tryz.f127 = some d127 := by kernel_rfl
theorem c132 : compFn Tryz.prog 8 Tryz.f132 = some d132 := by kernel_rfl
theorem c133 : compFn Tryz.prog 8 Tryz.f133 = some d133 := by kernel_rfl
theorem c135 : compFn Tryz.prog 8 Tryz.f135 = some d135 := by kernel_rfl
theorem c136 : compFn Tryz.prog 8 Tryz.f136 = some d136 := by kernel_rfl
theorem c138 : compFn Tryz.prog 8 Tryz.f138 = some d138 := by kernel_rfl
theorem c139 : compFn Tryz.prog 8 Tryz.f139 = some d139 := by kernel_rfl
theorem c140 : compFn Tryz.prog 8 Tryz.f140 = some d140 := by kernel_rfl
theorem c141 : compFn Tryz.prog 8 Tryz.f141 = some d141 := by kernel_rfl
theorem c150 : compFn Tryz.prog 8 Tryz.f150 = some d150 := by kernel_rfl
theorem c151 : compFn Tryz.prog 8 Tryz.f151 = some d151 := by kernel_rfl
theorem c152 : compFn Tryz.prog 8 Tryz.f152 = some d152 := by kernel_rfl
theorem c153 : compFn Tryz.prog 8 Tryz.f153 = some d153 := by kernel_rfl
theorem c154 : compFn Tryz.prog 8 Tryz.f154 = some d154 := by kernel_rfl
theorem c155 : compFn Tryz.prog 8 Tryz.f155 = some d155 := by kernel_rfl
theorem c156 : compFn Tryz.prog 8 Tryz.f156 = some d156 := by kernel_rfl
theorem c157 : compFn Tryz.prog 8 Tryz.f157 = some d157 := by kernel_rfl
theorem c159 : compFn Tryz.prog 8 Tryz.f159 = some d159 := by kernel_rfl
theorem c160 : compFn Tryz.prog 8 Tryz.f160 = some d160 := by kernel_rfl
theorem c161 : compFn Tryz.prog 8 Tryz.f161 = some d161 := by kernel_rfl
theorem c162 : compFn Tryz.prog 8 Tryz.f162 = some d162 := by kernel_rfl
theorem c163 : compFn Tryz.prog 8 Tryz.f163 = some d163 := by kernel_rfl
theorem c164 : compFn Tryz.prog 8 Tryz.f164 = some d164 := by kernel_rfl
theorem c165 : compFn Tryz.prog 8 Tryz.f165 = some d165 := by kernel_rfl
theorem c166 : compFn Tryz.prog 8 Tryz.f166 = some d166 := by kernel_rfl
theorem c167 : compFn Tryz.prog 8 Tryz.f167 = some d167 := by kernel_rfl
theorem c174 : compFn Tryz.prog 8 Tryz.f174 = some d174 := by kernel_rfl
theorem c179 : compFn Tryz.prog 8 Tryz.f179 = some d179 := by kernel_rfl
theorem c182 : compFn Tryz.prog 8 Tryz.f182 = some d182 := by kernel_rfl
theorem c183 : compFn Tryz.prog 8 Tryz.f183 = some d183 := by kernel_rfl
theorem c185 : compFn Tryz.prog 8 Tryz.f185 = some d185 := by kernel_rfl
theorem c186 : compFn Tryz.prog 8 Tryz.f186 = some d186 := by kernel_rfl
theorem c187 : compFn Tryz.prog 8 Tryz.f187 = some d187 := by kernel_rfl
theorem c188 : compFn Tryz.prog 8 Tryz.f188 = some d188 := by kernel_rfl
theorem c189 : compFn Tryz.prog 8 Tryz.f189 = some d189 := by kernel_rfl
theorem c191 : compFn Tryz.prog 8 Tryz.f191 = some d191 := by kernel_rfl
theorem c192 : compFn Tryz.prog 8 Tryz.f192 = some d192 := by kernel_rfl
theorem c193 : compFn Tryz.prog 8 Tryz.f193 = some d193 := by kernel_rfl
theorem c201 : compFn Tryz.prog 8 Tryz.f201 = some d201 := by kernel_rfl
theorem c202 : compFn Tryz.prog 8 Tryz.f202 = some d202 := by kernel_rfl
theorem c203 : compFn Tryz.prog 8 Tryz.f203 = some d203 := by kernel_rfl
theorem c204 : compFn Tryz.prog 8 Tryz.f204 = some d204 := by kernel_rfl
theorem c205 : compFn Tryz.prog 8 Tryz.f205 = some d205 := by kernel_rfl
theorem c211 : compFn Tryz.prog 8 Tryz.f211 = some d211 := by kernel_rfl
theorem c212 : compFn Tryz.prog 8 Tryz.f212 = some d212 := by kernel_rfl
theorem c222 : compFn Tryz.prog 8 Tryz.f222 = some d222 := by kernel_rfl
theorem c224 : compFn Tryz.prog 8 Tryz.f224 = some d224 := by kernel_rfl
theorem c225 : compFn Tryz.prog 8 Tryz.f225 = some d225 := by kernel_rfl
theorem c227 : compFn Tryz.prog 8 Tryz.f227 = some d227 := by kernel_rfl
theorem c229 : compFn Tryz.prog 8 Tryz.f229 = some d229 := by kernel_rfl
theorem c230 : compFn Tryz.prog 8 Tryz.f230 = some d230 := by kernel_rfl
theorem c231 : compFn Tryz.prog 8 Tryz.f231 = some d231 := by kernel_rfl
theorem c241 : compFn Tryz.prog 8 Tryz.f241 = some d241 := by kernel_rfl
theorem c242 : compFn Tryz.prog 8 Tryz.f242 = some d242 := by kernel_rfl
theorem c243 : compFn Tryz.prog 8 Tryz.f243 = some d243 := by kernel_rfl
theorem c244 : compFn Tryz.prog 8 Tryz.f244 = some d244 := by kernel_rfl
theorem c249 : compFn Tryz.prog 8 Tryz.f249 = some d249 := by kernel_rfl
theorem c250 : compFn Tryz.prog 8 Tryz.f250 = some d250 := by kernel_rfl
theorem c257 : compFn Tryz.prog 8 Tryz.f257 = some d257 := by kernel_rfl
theorem c259 : compFn Tryz.prog 8 Tryz.f259 = some d259 := by kernel_rfl
theorem c260 : compFn Tryz.prog 8 Tryz.f260 = some d260 := by kernel_rfl
theorem c261 : compFn Tryz.prog 8 Tryz.f261 = some d261 := by kernel_rfl
theorem c268 : compFn Tryz.prog 8 Tryz.f268 = some d268 := by kernel_rfl
theorem c269 : compFn Tryz.prog 8 Tryz.f269 = some d269 := by kernel_rfl
theorem c270 : compFn Tryz.prog 8 Tryz.f270 = some d270 := by kernel_rfl
theorem c282 : compFn Tryz.prog 8 Tryz.f282 = some d282 := by kernel_rfl
theorem c289 : compFn Tryz.prog 8 Tryz.f289 = some d289 := by kernel_rfl
theorem c293 : compFn Tryz.prog 8 Tryz.f293 = some d293 := by kernel_rfl
theorem c329 : compFn Tryz.prog 8 Tryz.f329 = some d329 := by kernel_rfl
theorem certs : CertAll Tryz.prog 8 fnList :=
  ⟨⟨_, Tryz.func4, c4⟩,
  ⟨⟨_, Tryz.func6, c6⟩,
  ⟨⟨_, Tryz.func7, c7⟩,
  ⟨⟨_, Tryz.func8, c8⟩,
  ⟨⟨_, Tryz.func9, c9⟩,
  ⟨⟨_, Tryz.func10, c10⟩,
  ⟨⟨_, Tryz.func11, c11⟩,
  ⟨⟨_, Tryz.func12, c12⟩,
  ⟨⟨_, Tryz.func13, c13⟩,
  ⟨⟨_, Tryz.func14, c14⟩,
  ⟨⟨_, Tryz.func15, c15⟩,
  ⟨⟨_, Tryz.func16, c16⟩,
  ⟨⟨_, Tryz.func18, c18⟩,
  ⟨⟨_, Tryz.func19, c19⟩,
  ⟨⟨_, Tryz.func20, c20⟩,
  ⟨⟨_, Tryz.func21, c21⟩,
  ⟨⟨_, Tryz.func22, c22⟩,
  ⟨⟨_, Tryz.func23, c23⟩,
  ⟨⟨_, Tryz.func24, c24⟩,
  ⟨⟨_, Tryz.func26, c26⟩,
  ⟨⟨_, Tryz.func27, c27⟩,
  ⟨⟨_, Tryz.func28, c28⟩,
  ⟨⟨_, Tryz.func29, c29⟩,
  ⟨⟨_, Tryz.func30, c30⟩,
  ⟨⟨_, Tryz.func31, c31⟩,
  ⟨⟨_, Tryz.func34, c34⟩,
  ⟨⟨_, Tryz.func35, c35⟩,
  ⟨⟨_, Tryz.func36, c36⟩,
  ⟨⟨_, Tryz.func37, c37⟩,
  ⟨⟨_, Tryz.func38, c38⟩,
  ⟨⟨_, Tryz.func43, c43⟩,
  ⟨⟨_, Tryz.func44, c44⟩,
  ⟨⟨_, Tryz.func45, c45⟩,
  ⟨⟨_, Tryz.func46, c46⟩,
  ⟨⟨_, Tryz.func47, c47⟩,
  ⟨⟨_, Tryz.func48, c48⟩,
  ⟨⟨_, Tryz.func49, c49⟩,
  ⟨⟨_, Tryz.func50, c50⟩,
  ⟨⟨_, Tryz.func51, c51⟩,
  ⟨⟨_, Tryz.func52, c52⟩,
  ⟨⟨_, Tryz.func53, c53⟩,
  ⟨⟨_, Tryz.func54, c54⟩,
  ⟨⟨_, Tryz.func55, c55⟩,
  ⟨⟨_, Tryz.func56, c56⟩,
  ⟨⟨_, Tryz.func57, c57⟩,
  ⟨⟨_, Tryz.func63, c63⟩,
  ⟨⟨_, Tryz.func64, c64⟩,
  ⟨⟨_, Tryz.func65, c65⟩,
  ⟨⟨_, Tryz.func66, c66⟩,
  ⟨⟨_, Tryz.func67, c67⟩,
  ⟨⟨_, Tryz.func69, c69⟩,
  ⟨⟨_, Tryz.func71, c71⟩,
  ⟨⟨_, Tryz.func73, c73⟩,
  ⟨⟨_, Tryz.func74, c74⟩,
  ⟨⟨_, Tryz.func75, c75⟩,
  ⟨⟨_, Tryz.func76, c76⟩,
  ⟨⟨_, Tryz.func77, c77⟩,
  ⟨⟨_, Tryz.func83, c83⟩,
  ⟨⟨_, Tryz.func84, c84⟩,
  ⟨⟨_, Tryz.func85, c85⟩,
  ⟨⟨_, Tryz.func86, c86⟩,
  ⟨⟨_, Tryz.func87, c87⟩,
  ⟨⟨_, Tryz.func88, c88⟩,
  ⟨⟨_, Tryz.func89, c89⟩,
  ⟨⟨_, Tryz.func90, c90⟩,
  ⟨⟨_, Tryz.func91, c91⟩,
  ⟨⟨_, Tryz.func92, c92⟩,
  ⟨⟨_, Tryz.func93, c93⟩,
  ⟨⟨_, Tryz.func94, c94⟩,
  ⟨⟨_, Tryz.func95, c95⟩,
  ⟨⟨_, Tryz.func96, c96⟩,
  ⟨⟨_, Tryz.func97, c97⟩,
  ⟨⟨_, Tryz.func98, c98⟩,
  ⟨⟨_, Tryz.func99, c99⟩,
  ⟨⟨_, Tryz.func100, c100⟩,
  ⟨⟨_, Tryz.func101, c101⟩,
  ⟨⟨_, Tryz.func102, c102⟩,
  ⟨⟨_, Tryz.func103, c103⟩,
  ⟨⟨_, Tryz.func104, c104⟩,
  ⟨⟨_, Tryz.func105, c105⟩,
  ⟨⟨_, Tryz.func106, c106⟩,
  ⟨⟨_, Tryz.func109, c109⟩,
  ⟨⟨_, Tryz.func110, c110⟩,
  ⟨⟨_, Tryz.func116, c116⟩,
  ⟨⟨_, Tryz.func117, c117⟩,
  ⟨⟨_, Tryz.func125, c125⟩,
  ⟨⟨_, Tryz.func126, c126⟩,
  ⟨⟨_, Tryz.func127, c127⟩,
  ⟨⟨_, Tryz.func132, c132⟩,
  ⟨⟨_, Tryz.func133, c133⟩,
  ⟨⟨_, Tryz.func135, c135⟩,
  ⟨⟨_, Tryz.func136, c136⟩,
  ⟨⟨_, Tryz.func138, c138⟩,
  ⟨⟨_, Tryz.func139, c139⟩,
  ⟨⟨_, Tryz.func140, c140⟩,
  ⟨⟨_, Tryz.func141, c141⟩,
  ⟨⟨_, Tryz.func150, c150⟩,
  ⟨⟨_, Tryz.func151, c151⟩,
  ⟨⟨_, Tryz.func152, c152⟩,
  ⟨⟨_, Tryz.func153, c153⟩,
  ⟨⟨_, Tryz.func154, c154⟩,
  ⟨⟨_, Tryz.func155, c155⟩,
  ⟨⟨_, Tryz.func156, c156⟩,
  ⟨⟨_, Tryz.func157, c157⟩,
  ⟨⟨_, Tryz.func159, c159⟩,
  ⟨⟨_, Tryz.func160, c160⟩,
  ⟨⟨_, Tryz.func161, c161⟩,
  ⟨⟨_, Tryz.func162, c162⟩,
  ⟨⟨_, Tryz.func163, c163⟩,
  ⟨⟨_, Tryz.func164, c164⟩,
  ⟨⟨_, Tryz.func165, c165⟩,
  ⟨⟨_, Tryz.func166, c166⟩,
  ⟨⟨_, Tryz.func167, c167⟩,
  ⟨⟨_, Tryz.func174, c174⟩,
  ⟨⟨_, Tryz.func179, c179⟩,
  ⟨⟨_, Tryz.func182, c182⟩,
  ⟨⟨_, Tryz.func183, c183⟩,
  ⟨⟨_, Tryz.func185, c185⟩,
  ⟨⟨_, Tryz.func186, c186⟩,
  ⟨⟨_, Tryz.func187, c187⟩,
  ⟨⟨_, Tryz.func188, c188⟩,
  ⟨⟨_, Tryz.func189, c189⟩,
  ⟨⟨_, Tryz.func191, c191⟩,
  ⟨⟨_, Tryz.func192, c192⟩,
  ⟨⟨_, Tryz.func193, c193⟩,
  ⟨⟨_, Tryz.func201, c201⟩,
  ⟨⟨_, Tryz.func202, c202⟩,
  ⟨⟨_, Tryz.func203, c203⟩,
  ⟨⟨_, Tryz.func204, c204⟩,
  ⟨⟨_, Tryz.func205, c205⟩,
  ⟨⟨_, Tryz.func211, c211⟩,
  ⟨⟨_, Tryz.func212, c212⟩,
  ⟨⟨_, Tryz.func222, c222⟩,
  ⟨⟨_, Tryz.func224, c224⟩,
  ⟨⟨_, Tryz.func225, c225⟩,
  ⟨⟨_, Tryz.func227, c227⟩,
  ⟨⟨_, Tryz.func229, c229⟩,
  ⟨⟨_, Tryz.func230, c230⟩,
  ⟨⟨_, Tryz.func231, c231⟩,
  ⟨⟨_, Tryz.func241, c241⟩,
  ⟨⟨_, Tryz.func242, c242⟩,
  ⟨⟨_, Tryz.func243, c243⟩,
  ⟨⟨_, Tryz.func244, c244⟩,
  ⟨⟨_, Tryz.func249, c249⟩,
  ⟨⟨_, Tryz.func250, c250⟩,
  ⟨⟨_, Tryz.func257, c257⟩,
  ⟨⟨_, Tryz.func259, c259⟩,
  ⟨⟨_, Tryz.func260, c260⟩,
  ⟨⟨_, Tryz.func261, c261⟩,
  ⟨⟨_, Tryz.func268, c268⟩,
  ⟨⟨_, Tryz.func269, c269⟩,
  ⟨⟨_, Tryz.func270, c270⟩,
  ⟨⟨_, Tryz.func282, c282⟩,
  ⟨⟨_, Tryz.func289, c289⟩,
  ⟨⟨_, Tryz.func293, c293⟩,
  ⟨⟨_, Tryz.func329, c329⟩,
  trivial⟩⟩⟩⟩⟩⟩⟩⟩⟩⟩⟩⟩⟩⟩⟩⟩⟩⟩⟩⟩⟩⟩⟩⟩⟩⟩⟩⟩⟩⟩⟩⟩⟩⟩⟩⟩⟩⟩⟩⟩⟩⟩⟩⟩⟩⟩⟩⟩⟩⟩⟩⟩⟩⟩⟩⟩⟩⟩⟩⟩⟩⟩⟩⟩⟩⟩⟩⟩⟩⟩⟩⟩⟩⟩⟩⟩⟩⟩⟩⟩⟩⟩⟩⟩⟩⟩⟩⟩⟩⟩⟩⟩⟩⟩⟩⟩⟩⟩⟩⟩⟩⟩⟩⟩⟩⟩⟩⟩⟩⟩⟩⟩⟩⟩⟩⟩⟩⟩⟩⟩⟩⟩⟩⟩⟩⟩⟩⟩⟩⟩⟩⟩⟩⟩⟩⟩⟩⟩⟩⟩⟩⟩⟩⟩⟩⟩⟩⟩⟩⟩⟩⟩⟩⟩⟩⟩
theorem tree : T.ofList fnList = fns := by kernel_rfl
theorem small : allSmall fnList = true := by kernel_rfl
theorem fns_ok : FnsOk Tryz.prog 8 fns := fnsOk_of tree small certs
end KD
