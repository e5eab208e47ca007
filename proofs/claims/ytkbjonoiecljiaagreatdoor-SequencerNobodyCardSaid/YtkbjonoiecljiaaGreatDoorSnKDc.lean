/-
  Each function of the table is what the machine makes of the program's.
-/
import Derived.Test.YtkbjonoiecljiaaGreatDoorSnKDb
import Derived.Test.YtkbjonoiecljiaaGreatDoorDxFns
import Derived.Test.YtkbjonoiecljiaaGreatDoorProg
import Derived.KernelRfl
namespace KD
open Go Go.Dx Go.Proofs
theorem c3 : compFn Tryz.prog 11 Tryz.f3 = some d3 := by kernel_rfl
theorem c4 : compFn Tryz.prog 11 Tryz.f4 = some d4 := by kernel_rfl
theorem c5 : compFn Tryz.prog 11 Tryz.f5 = some d5 := by kernel_rfl
theorem c6 : compFn Tryz.prog 11 Tryz.f6 = some d6 := by kernel_rfl
theorem c7 : compFn Tryz.prog 11 Tryz.f7 = some d7 := by kernel_rfl
theorem c8 : compFn Tryz.prog 11 Tryz.f8 = some d8 := by kernel_rfl
theorem c9 : compFn Tryz.prog 11 Tryz.f9 = some d9 := by kernel_rfl
theorem c10 : compFn Tryz.prog 11 Tryz.f10 = some d10 := by kernel_rfl
theorem c11 : compFn Tryz.prog 11 Tryz.f11 = some d11 := by kernel_rfl
theorem c12 : compFn Tryz.prog 11 Tryz.f12 = some d12 := by kernel_rfl
theorem c13 : compFn Tryz.prog 11 Tryz.f13 = some d13 := by kernel_rfl
theorem c14 : compFn Tryz.prog 11 Tryz.f14 = some d14 := by kernel_rfl
theorem c15 : compFn Tryz.prog 11 Tryz.f15 = some d15 := by kernel_rfl
theorem c16 : compFn Tryz.prog 11 Tryz.f16 = some d16 := by kernel_rfl
theorem c17 : compFn Tryz.prog 11 Tryz.f17 = some d17 := by kernel_rfl
theorem c18 : compFn Tryz.prog 11 Tryz.f18 = some d18 := by kernel_rfl
theorem c19 : compFn Tryz.prog 11 Tryz.f19 = some d19 := by kernel_rfl
theorem c20 : compFn Tryz.prog 11 Tryz.f20 = some d20 := by kernel_rfl
theorem c23 : compFn Tryz.prog 11 Tryz.f23 = some d23 := by kernel_rfl
theorem c30 : compFn Tryz.prog 11 Tryz.f30 = some d30 := by kernel_rfl
theorem c31 : compFn Tryz.prog 11 Tryz.f31 = some d31 := by kernel_rfl
theorem c33 : compFn Tryz.prog 11 Tryz.f33 = some d33 := by kernel_rfl
theorem c35 : compFn Tryz.prog 11 Tryz.f35 = some d35 := by kernel_rfl
theorem c36 : compFn Tryz.prog 11 Tryz.f36 = some d36 := by kernel_rfl
theorem c37 : compFn Tryz.prog 11 Tryz.f37 = some d37 := by kernel_rfl
theorem c38 : compFn Tryz.prog 11 Tryz.f38 = some d38 := by kernel_rfl
theorem c39 : compFn Tryz.prog 11 Tryz.f39 = some d39 := by kernel_rfl
theorem c40 : compFn Tryz.prog 11 Tryz.f40 = some d40 := by kernel_rfl
theorem c42 : compFn Tryz.prog 11 Tryz.f42 = some d42 := by kernel_rfl
theorem c43 : compFn Tryz.prog 11 Tryz.f43 = some d43 := by kernel_rfl
theorem c44 : compFn Tryz.prog 11 Tryz.f44 = some d44 := by kernel_rfl
theorem c45 : compFn Tryz.prog 11 Tryz.f45 = some d45 := by kernel_rfl
theorem c46 : compFn Tryz.prog 11 Tryz.f46 = some d46 := by kernel_rfl
theorem c47 : compFn Tryz.prog 11 Tryz.f47 = some d47 := by kernel_rfl
theorem c48 : compFn Tryz.prog 11 Tryz.f48 = some d48 := by kernel_rfl
theorem c49 : compFn Tryz.prog 11 Tryz.f49 = some d49 := by kernel_rfl
theorem c50 : compFn Tryz.prog 11 Tryz.f50 = some d50 := by kernel_rfl
theorem c51 : compFn Tryz.prog 11 Tryz.f51 = some d51 := by kernel_rfl
theorem c52 : compFn Tryz.prog 11 Tryz.f52 = some d52 := by kernel_rfl
theorem c54 : compFn Tryz.prog 11 Tryz.f54 = some d54 := by kernel_rfl
theorem c56 : compFn Tryz.prog 11 Tryz.f56 = some d56 := by kernel_rfl
theorem c57 : compFn Tryz.prog 11 Tryz.f57 = some d57 := by kernel_rfl
theorem c58 : compFn Tryz.prog 11 Tryz.f58 = some d58 := by kernel_rfl
theorem c77 : compFn Tryz.prog 11 Tryz.f77 = some d77 := by kernel_rfl
theorem c78 : compFn Tryz.prog 11 Tryz.f78 = some d78 := by kernel_rfl
theorem c79 : compFn Tryz.prog 11 Tryz.f79 = some d79 := by kernel_rfl
theorem c80 : compFn Tryz.prog 11 Tryz.f80 = some d80 := by kernel_rfl
theorem c82 : compFn Tryz.prog 11 Tryz.f82 = some d82 := by kernel_rfl
theorem c85 : compFn Tryz.prog 11 Tryz.f85 = some d85 := by kernel_rfl
theorem c86 : compFn Tryz.prog 11 Tryz.f86 = some d86 := by kernel_rfl
theorem c87 : compFn Tryz.prog 11 Tryz.f87 = some d87 := by kernel_rfl
theorem c89 : compFn Tryz.prog 11 Tryz.f89 = some d89 := by kernel_rfl
theorem c90 : compFn Tryz.prog 11 Tryz.f90 = some d90 := by kernel_rfl
theorem c91 : compFn Tryz.prog 11 Tryz.f91 = some d91 := by kernel_rfl
theorem c93 : compFn Tryz.prog 11 Tryz.f93 = some d93 := by kernel_rfl
theorem c94 : compFn Tryz.prog 11 Tryz.f94 = some d94 := by kernel_rfl
theorem c95 : compFn Tryz.prog 11 Tryz.f95 = some d95 := by kernel_rfl
theorem c96 : compFn Tryz.prog 11 Tryz.f96 = some d96 := by kernel_rfl
theorem c101 : compFn Tryz.prog 11 Tryz.f101 = some d101 := by kernel_rfl
theorem c102 : compFn Tryz.prog 11 Tryz.f102 = some d102 := by kernel_rfl
theorem c103 : compFn Tryz.prog 11 Tryz.f103 = some d103 := by kernel_rfl
theorem c104 : compFn Tryz.prog 11 Tryz.f104 = some d104 := by kernel_rfl
theorem c105 : compFn Tryz.prog 11 Tryz.f105 = some d105 := by kernel_rfl
theorem c106 : compFn Tryz.prog 11 Tryz.f106 = some d106 := by kernel_rfl
theorem c107 : compFn Tryz.prog 11 Tryz.f107 = some d107 := by kernel_rfl
theorem c108 : compFn Tryz.prog 11 Tryz.f108 = some d108 := by kernel_rfl
theorem c109 : compFn Tryz.prog 11 Tryz.f109 = some d109 := by kernel_rfl
theorem c110 : compFn Tryz.prog 11 Tryz.f110 = some d110 := by kernel_rfl
theorem c112 : compFn Tryz.prog 11 Tryz.f112 = some d112 := by kernel_rfl
theorem c116 : compFn Tryz.prog 11 Tryz.f116 = some d116 := by kernel_rfl
theorem c125 : compFn Tryz.prog 11 Tryz.f125 = some d125 := by kernel_rfl
theorem c127 : compFn Tryz.prog 11 Tryz.f127 = some d127 := by kernel_rfl
theorem c128 : compFn Tryz.prog 11 Tryz.f128 = some d128 := by kernel_rfl
theorem c143 : compFn Tryz.prog 11 Tryz.f143 = some d143 := by kernel_rfl
theorem c144 : compFn Tryz.prog 11 Tryz.f144 = some d144 := by kernel_rfl
theorem c149 : compFn Tryz.prog 11 Tryz.f149 = some d149 := by kernel_rfl
theorem c155 : compFn Tryz.prog 11 Tryz.f155 = some d155 := by kernel_rfl
theorem c156 : compFn Tryz.prog 11 Tryz.f156 = some d156 := by kernel_rfl
theorem c157 : compFn Tryz.prog 11 Tryz.f157 = some d157 := by kernel_rfl
theorem c158 : compFn Tryz.prog 11 Tryz.f158 = some d158 := by kernel_rfl
theorem c159 : compFn Tryz.prog 11 Tryz.f159 = some d159 := by kernel_rfl
theorem c160 : compFn Tryz.prog 11 Tryz.f160 = some d160 := by kernel_rfl
theorem c167 : compFn Tryz.prog 11 Tryz.f167 = some d167 := by kernel_rfl
theorem c168 : compFn Tryz.prog 11 Tryz.f168 = some d168 := by kernel_rfl
theorem c169 : compFn Tryz.prog 11 Tryz.f169 = some d169 := by kernel_rfl
theorem c170 : compFn Tryz.prog 11 Tryz.f170 = some d170 := by kernel_rfl
theorem c171 : compFn Tryz.prog 11 Tryz.f171 = some d171 := by kernel_rfl
theorem c172 : compFn Tryz.prog 11 Tryz.f172 = some d172 := by kernel_rfl
theorem c173 : compFn Tryz.prog 11 Tryz.f173 = some d173 := by kernel_rfl
theorem c174 : compFn Tryz.prog 11 Tryz.f174 = some d174 := by kernel_rfl
theorem c175 : compFn Tryz.prog 11 Tryz.f175 = some d175 := by kernel_rfl
theorem c176 : compFn Tryz.prog 11 Tryz.f176 = some d176 := by kernel_rfl
theorem c183 : compFn Tryz.prog 11 Tryz.f183 = some d183 := by kernel_rfl
theorem c184 : compFn Tryz.prog 11 Tryz.f184 = some d184 := by kernel_rfl
theorem c193 : compFn Tryz.prog 11 Tryz.f193 = some d193 := by kernel_rfl
theorem c194 : compFn Tryz.prog 11 Tryz.f194 = some d194 := by kernel_rfl
theorem c195 : compFn Tryz.prog 11 Tryz.f195 = some d195 := by kernel_rfl
theorem c196 : compFn Tryz.prog 11 Tryz.f196 = some d196 := by kernel_rfl
theorem c197 : compFn Tryz.prog 11 Tryz.f197 = some d197 := by kernel_rfl
theorem c198 : compFn Tryz.prog 11 Tryz.f198 = some d198 := by kernel_rfl
theorem c199 : compFn Tryz.prog 11 Tryz.f199 = some d199 := by kernel_rfl
theorem c200 : compFn Tryz.prog 11 Tryz.f200 = some d200 := by kernel_rfl
theorem c202 : compFn Tryz.prog 11 Tryz.f202 = some d202 := by kernel_rfl
theorem c227 : compFn Tryz.prog 11 Tryz.f227 = some d227 := by kernel_rfl
theorem c228 : compFn Tryz.prog 11 Tryz.f228 = some d228 := by kernel_rfl
theorem c229 : compFn Tryz.prog 11 Tryz.f229 = some d229 := by kernel_rfl
theorem c237 : compFn Tryz.prog 11 Tryz.f237 = some d237 := by kernel_rfl
theorem c238 : compFn Tryz.prog 11 Tryz.f238 = some d238 := by kernel_rfl
theorem c239 : compFn Tryz.prog 11 Tryz.f239 = some d239 := by kernel_rfl
theorem c240 : compFn Tryz.prog 11 Tryz.f240 = some d240 := by kernel_rfl
theorem c249 : compFn Tryz.prog 11 Tryz.f249 = some d249 := by kernel_rfl
theorem c250 : compFn Tryz.prog 11 Tryz.f250 = some d250 := by kernel_rfl
theorem c251 : compFn Tryz.prog 11 Tryz.f251 = some d251 := by kernel_rfl
theorem c253 : compFn Tryz.prog 11 Tryz.f253 = some d253 := by kernel_rfl
theorem c255 : compFn Tryz.prog 11 Tryz.f255 = some d255 := by kernel_rfl
theorem c256 : compFn Tryz.prog 11 Tryz.f256 = some d256 := by kernel_rfl
theorem c257 : compFn Tryz.prog 11 Tryz.f257 = some d257 := by kernel_rfl
theorem c258 : compFn Tryz.prog 11 Tryz.f258 = some d258 := by kernel_rfl
theorem c259 : compFn Tryz.prog 11 Tryz.f259 = some d259 := by kernel_rfl
theorem c262 : compFn Tryz.prog 11 Tryz.f262 = some d262 := by kernel_rfl
theorem c273 : compFn Tryz.prog 11 Tryz.f273 = some d273 := by kernel_rfl
theorem c274 : compFn Tryz.prog 11 Tryz.f274 = some d274 := by kernel_rfl
theorem c275 : compFn Tryz.prog 11 Tryz.f275 = some d275 := by kernel_rfl
theorem c276 : compFn Tryz.prog 11 Tryz.f276 = some d276 := by kernel_rfl
theorem c303 : compFn Tryz.prog 11 Tryz.f303 = some d303 := by kernel_rfl
theorem c304 : compFn Tryz.prog 11 Tryz.f304 = some d304 := by kernel_rfl
theorem c306 : compFn Tryz.prog 11 Tryz.f306 = some d306 := by kernel_rfl
theorem c308 : compFn Tryz.prog 11 Tryz.f308 = some d308 := by kernel_rfl
theorem c309 : compFn Tryz.prog 11 Tryz.f309 = some d309 := by kernel_rfl
theorem c310 : compFn Tryz.prog 11 Tryz.f310 = some d310 := by kernel_rfl
theorem c312 : compFn Tryz.prog 11 Tryz.f312 = some d312 := by kernel_rfl
theorem c313 : compFn Tryz.prog 11 Tryz.f313 = some d313 := by kernel_rfl
theorem c314 : compFn Tryz.prog 11 Tryz.f314 = some d314 := by kernel_rfl
theorem c329 : compFn Tryz.prog 11 Tryz.f329 = some d329 := by kernel_rfl
theorem c330 : compFn Tryz.prog 11 Tryz.f330 = some d330 := by kernel_rfl
theorem c332 : compFn Tryz.prog 11 Tryz.f332 = some d332 := by kernel_rfl
theorem c333 : compFn Tryz.prog 11 Tryz.f333 = some d333 := by kernel_rfl
theorem c343 : compFn Tryz.prog 11 Tryz.f343 = some d343 := by kernel_rfl
theorem c344 : compFn Tryz.prog 11 Tryz.f344 = some d344 := by kernel_rfl
theorem c345 : compFn Tryz.prog 11 Tryz.f345 = some d345 := by kernel_rfl
theorem c353 : compFn Tryz.prog 11 Tryz.f353 = some d353 := by kernel_rfl
theorem c361 : compFn Tryz.prog 11 Tryz.f361 = some d361 := by kernel_rfl
theorem c362 : compFn Tryz.prog 11 Tryz.f362 = some d362 := by kernel_rfl
theorem c363 : compFn Tryz.prog 11 Tryz.f363 = some d363 := by kernel_rfl
theorem c374 : compFn Tryz.prog 11 Tryz.f374 = some d374 := by kernel_rfl
theorem c383 : compFn Tryz.prog 11 Tryz.f383 = some d383 := by kernel_rfl
theorem certs : CertAll Tryz.prog 11 fnList :=
  ⟨⟨_, Tryz.func3, c3⟩,
  ⟨⟨_, Tryz.func4, c4⟩,
  ⟨⟨_, Tryz.func5, c5⟩,
  ⟨⟨_, Tryz.func6, c6⟩,
  ⟨⟨_, Tryz.func7, c7⟩,
  ⟨⟨_, Tryz.func8, c8⟩,
  ⟨⟨_, Tryz.func9, c9⟩,
  ⟨⟨_, Tryz.func10, c10⟩,
  ⟨⟨_, Tryz.func11, c11⟩,
  ⟨⟨_, Tryz.func12, c12⟩,
  ⟨⟨_, Tryz.func13, c13⟩,
  ⟨⟨_, Tryz.func14, c14⟩,
  ⟨⟨_, Tryz.func15, c15⟩,
  ⟨⟨_, Tryz.func16, c16⟩,
  ⟨⟨_, Tryz.func17, c17⟩,
  ⟨⟨_, Tryz.func18, c18⟩,
  ⟨⟨_, Tryz.func19, c19⟩,
  ⟨⟨_, Tryz.func20, c20⟩,
  ⟨⟨_, Tryz.func23, c23⟩,
  ⟨⟨_, Tryz.func30, c30⟩,
  ⟨⟨_, Tryz.func31, c31⟩,
  ⟨⟨_, Tryz.func33, c33⟩,
  ⟨⟨_, Tryz.func35, c35⟩,
  ⟨⟨_, Tryz.func36, c36⟩,
  ⟨⟨_, Tryz.func37, c37⟩,
  ⟨⟨_, Tryz.func38, c38⟩,
  ⟨⟨_, Tryz.func39, c39⟩,
  ⟨⟨_, Tryz.func40, c40⟩,
  ⟨⟨_, Tryz.func42, c42⟩,
  ⟨⟨_, Tryz.func43, c43⟩,
  ⟨⟨_, Tryz.func44, c44⟩,
  ⟨⟨_, Tryz.func45, c45⟩,
  ⟨⟨_, Tryz.func46, c46⟩,
  ⟨⟨_, Tryz.func47, c47⟩,
  ⟨⟨_, Tryz.func48, c48⟩,
  ⟨⟨_, Tryz.func49, c49⟩,
  ⟨⟨_, Tryz.func50, c50⟩,
  ⟨⟨_, Tryz.func51, c51⟩,
  ⟨⟨_, Tryz.func52, c52⟩,
  ⟨⟨_, Tryz.func54, c54⟩,
  ⟨⟨_, Tryz.func56, c56⟩,
  ⟨⟨_, Tryz.func57, c57⟩,
  ⟨⟨_, Tryz.func58, c58⟩,
  ⟨⟨_, Tryz.func77, c77⟩,
  ⟨⟨_, Tryz.func78, c78⟩,
  ⟨⟨_, Tryz.func79, c79⟩,
  ⟨⟨_, Tryz.func80, c80⟩,
  ⟨⟨_, Tryz.func82, c82⟩,
  ⟨⟨_, Tryz.func85, c85⟩,
  ⟨⟨_, Tryz.func86, c86⟩,
  ⟨⟨_, Tryz.func87, c87⟩,
  ⟨⟨_, Tryz.func89, c89⟩,
  ⟨⟨_, Tryz.func90, c90⟩,
  ⟨⟨_, Tryz.func91, c91⟩,
  ⟨⟨_, Tryz.func93, c93⟩,
  ⟨⟨_, Tryz.func94, c94⟩,
  ⟨⟨_, Tryz.func95, c95⟩,
  ⟨⟨_, Tryz.func96, c96⟩,
  ⟨⟨_, Tryz.func101, c101⟩,
  ⟨⟨_, Tryz.func102, c102⟩,
  ⟨⟨_, Tryz.func103, c103⟩,
  ⟨⟨_, Tryz.func104, c104⟩,
  ⟨⟨_, Tryz.func105, c105⟩,
  ⟨⟨_, Tryz.func106, c106⟩,
  ⟨⟨_, Tryz.func107, c107⟩,
  ⟨⟨_, Tryz.func108, c108⟩,
  ⟨⟨_, Tryz.func109, c109⟩,
  ⟨⟨_, Tryz.func110, c110⟩,
  ⟨⟨_, Tryz.func112, c112⟩,
  ⟨⟨_, Tryz.func116, c116⟩,
  ⟨⟨_, Tryz.func125, c125⟩,
  ⟨⟨_, Tryz.func127, c127⟩,
  ⟨⟨_, Tryz.func128, c128⟩,
  ⟨⟨_, Tryz.func143, c143⟩,
  ⟨⟨_, Tryz.func144, c144⟩,
  ⟨⟨_, Tryz.func149, c149⟩,
  ⟨⟨_, Tryz.func155, c155⟩,
  ⟨⟨_, Tryz.func156, c156⟩,
  ⟨⟨_, Tryz.func157, c157⟩,
  ⟨⟨_, Tryz.func158, c158⟩,
  ⟨⟨_, Tryz.func159, c159⟩,
  ⟨⟨_, Tryz.func160, c160⟩,
  ⟨⟨_, Tryz.func167, c167⟩,
  ⟨⟨_, Tryz.func168, c168⟩,
  ⟨⟨_, Tryz.func169, c169⟩,
  ⟨⟨_, Tryz.func170, c170⟩,
  ⟨⟨_, Tryz.func171, c171⟩,
  ⟨⟨_, Tryz.func172, c172⟩,
  ⟨⟨_, Tryz.func173, c173⟩,
  ⟨⟨_, Tryz.func174, c174⟩,
  ⟨⟨_, Tryz.func175, c175⟩,
  ⟨⟨_, Tryz.func176, c176⟩,
  ⟨⟨_, Tryz.func183, c183⟩,
  ⟨⟨_, Tryz.func184, c184⟩,
  ⟨⟨_, Tryz.func193, c193⟩,
  ⟨⟨_, Tryz.func194, c194⟩,
  ⟨⟨_, Tryz.func195, c195⟩,
  ⟨⟨_, Tryz.func196, c196⟩,
  ⟨⟨_, Tryz.func197, c197⟩,
  ⟨⟨_, Tryz.func198, c198⟩,
  ⟨⟨_, Tryz.func199, c199⟩,
  ⟨⟨_, Tryz.func200, c200⟩,
  ⟨⟨_, Tryz.func202, c202⟩,
  ⟨⟨_, Tryz.func227, c227⟩,
  ⟨⟨_, Tryz.func228, c228⟩,
  ⟨⟨_, Tryz.func229, c229⟩,
  ⟨⟨_, Tryz.func237, c237⟩,
  ⟨⟨_, Tryz.func238, c238⟩,
  ⟨⟨_, Tryz.func239, c239⟩,
  ⟨⟨_, Tryz.func240, c240⟩,
  ⟨⟨_, Tryz.func249, c249⟩,
  ⟨⟨_, Tryz.func250, c250⟩,
  ⟨⟨_, Tryz.func251, c251⟩,
  ⟨⟨_, Tryz.func253, c253⟩,
  ⟨⟨_, Tryz.func255, c255⟩,
  ⟨⟨_, Tryz.func256, c256⟩,
  ⟨⟨_, Tryz.func257, c257⟩,
  ⟨⟨_, Tryz.func258, c258⟩,
  ⟨⟨_, Tryz.func259, c259⟩,
  ⟨⟨_, Tryz.func262, c262⟩,
  ⟨⟨_, Tryz.func273, c273⟩,
  ⟨⟨_, Tryz.func274, c274⟩,
  ⟨⟨_, Tryz.func275, c275⟩,
  ⟨⟨_, Tryz.func276, c276⟩,
  ⟨⟨_, Tryz.func303, c303⟩,
  ⟨⟨_, Tryz.func304, c304⟩,
  ⟨⟨_, Tryz.func306, c306⟩,
  ⟨⟨_, Tryz.func308, c308⟩,
  ⟨⟨_, Tryz.func309, c309⟩,
  ⟨⟨_, Tryz.func310, c310⟩,
  ⟨⟨_, Tryz.func312, c312⟩,
  ⟨⟨_, Tryz.func313, c313⟩,
  ⟨⟨_, Tryz.func314, c314⟩,
  ⟨⟨_, Tryz.func329, c329⟩,
  ⟨⟨_, Tryz.func330, c330⟩,
  ⟨⟨_, Tryz.func332, c332⟩,
  ⟨⟨_, Tryz.func333, c333⟩,
  ⟨⟨_, Tryz.func343, c343⟩,
  ⟨⟨_, Tryz.func344, c344⟩,
  ⟨⟨_, Tryz.func345, c345⟩,
  ⟨⟨_, Tryz.func353, c353⟩,
  ⟨⟨_, Tryz.func361, c361⟩,
  ⟨⟨_, Tryz.func362, c362⟩,
  ⟨⟨_, Tryz.func363, c363⟩,
  ⟨⟨_, Tryz.func374, c374⟩,
  ⟨⟨_, Tryz.func383, c383⟩,
  trivial⟩⟩⟩⟩⟩⟩⟩⟩⟩⟩⟩⟩⟩⟩⟩⟩⟩⟩⟩⟩⟩⟩⟩⟩⟩⟩⟩⟩⟩⟩⟩⟩⟩⟩⟩⟩⟩⟩⟩⟩⟩⟩⟩⟩⟩⟩⟩⟩⟩⟩⟩⟩⟩⟩⟩⟩⟩⟩⟩⟩⟩⟩⟩⟩⟩⟩⟩⟩⟩⟩⟩⟩⟩⟩⟩⟩⟩⟩⟩⟩⟩⟩⟩⟩⟩⟩⟩⟩⟩⟩⟩⟩⟩⟩⟩⟩⟩⟩⟩⟩⟩⟩⟩⟩⟩⟩⟩⟩⟩⟩⟩⟩⟩⟩⟩⟩⟩⟩⟩⟩⟩⟩⟩⟩⟩⟩⟩⟩⟩⟩⟩⟩⟩⟩⟩⟩⟩⟩⟩⟩⟩⟩⟩⟩⟩⟩
theorem tree : T.ofList fnList = fns := by kernel_rfl
theorem small : allSmall fnList = true := by kernel_rfl
theorem fns_ok : FnsOk Tryz.prog 11 fns := fnsOk_of tree small certs
end KD
