/-
  Each function of the table is what the machine makes of the program's.
-/
import Derived.Test.YtknfcfeldncbiaaGreatDoorCnKDb
import Derived.Test.YtknfcfeldncbiaaGreatDoorDxFns
import Derived.Test.YtknfcfeldncbiaaGreatDoorProg
import Derived.KernelRfl
namespace KD
open Go Go.Dx Go.Proofs
theorem c3 : compFn Tryz.prog 8 Tryz.f3 = some d3 := by kernel_rfl
theorem c4 : compFn Tryz.prog 8 Tryz.f4 = some d4 := by kernel_rfl
theorem c5 : compFn Tryz.prog 8 Tryz.f5 = some d5 := by kernel_rfl
theorem c6 : compFn Tryz.prog 8 Tryz.f6 = some d6 := by kernel_rfl
theorem c7 : compFn Tryz.prog 8 Tryz.f7 = some d7 := by kernel_rfl
theorem c8 : compFn Tryz.prog 8 Tryz.f8 = some d8 := by kernel_rfl
theorem c9 : compFn Tryz.prog 8 Tryz.f9 = some d9 := by kernel_rfl
theorem c10 : compFn Tryz.prog 8 Tryz.f10 = some d10 := by kernel_rfl
theorem c11 : compFn Tryz.prog 8 Tryz.f11 = some d11 := by kernel_rfl
theorem c12 : compFn Tryz.prog 8 Tryz.f12 = some d12 := by kernel_rfl
theorem c13 : compFn Tryz.prog 8 Tryz.f13 = some d13 := by kernel_rfl
theorem c14 : compFn Tryz.prog 8 Tryz.f14 = some d14 := by kernel_rfl
theorem c15 : compFn Tryz.prog 8 Tryz.f15 = some d15 := by kernel_rfl
theorem c16 : compFn Tryz.prog 8 Tryz.f16 = some d16 := by kernel_rfl
theorem c17 : compFn Tryz.prog 8 Tryz.f17 = some d17 := by kernel_rfl
theorem c18 : compFn Tryz.prog 8 Tryz.f18 = some d18 := by kernel_rfl
theorem c19 : compFn Tryz.prog 8 Tryz.f19 = some d19 := by kernel_rfl
theorem c20 : compFn Tryz.prog 8 Tryz.f20 = some d20 := by kernel_rfl
theorem c21 : compFn Tryz.prog 8 Tryz.f21 = some d21 := by kernel_rfl
theorem c22 : compFn Tryz.prog 8 Tryz.f22 = some d22 := by kernel_rfl
theorem c23 : compFn Tryz.prog 8 Tryz.f23 = some d23 := by kernel_rfl
theorem c24 : compFn Tryz.prog 8 Tryz.f24 = some d24 := by kernel_rfl
theorem c25 : compFn Tryz.prog 8 Tryz.f25 = some d25 := by kernel_rfl
theorem c26 : compFn Tryz.prog 8 Tryz.f26 = some d26 := by kernel_rfl
theorem c27 : compFn Tryz.prog 8 Tryz.f27 = some d27 := by kernel_rfl
theorem c29 : compFn Tryz.prog 8 Tryz.f29 = some d29 := by kernel_rfl
theorem c30 : compFn Tryz.prog 8 Tryz.f30 = some d30 := by kernel_rfl
theorem c35 : compFn Tryz.prog 8 Tryz.f35 = some d35 := by kernel_rfl
theorem c36 : compFn Tryz.prog 8 Tryz.f36 = some d36 := by kernel_rfl
theorem c37 : compFn Tryz.prog 8 Tryz.f37 = some d37 := by kernel_rfl
theorem c39 : compFn Tryz.prog 8 Tryz.f39 = some d39 := by kernel_rfl
theorem c40 : compFn Tryz.prog 8 Tryz.f40 = some d40 := by kernel_rfl
theorem c41 : compFn Tryz.prog 8 Tryz.f41 = some d41 := by kernel_rfl
theorem c42 : compFn Tryz.prog 8 Tryz.f42 = some d42 := by kernel_rfl
theorem c43 : compFn Tryz.prog 8 Tryz.f43 = some d43 := by kernel_rfl
theorem c44 : compFn Tryz.prog 8 Tryz.f44 = some d44 := by kernel_rfl
theorem c45 : compFn Tryz.prog 8 Tryz.f45 = some d45 := by kernel_rfl
theorem c46 : compFn Tryz.prog 8 Tryz.f46 = some d46 := by kernel_rfl
theorem c51 : compFn Tryz.prog 8 Tryz.f51 = some d51 := by kernel_rfl
theorem c52 : compFn Tryz.prog 8 Tryz.f52 = some d52 := by kernel_rfl
theorem c53 : compFn Tryz.prog 8 Tryz.f53 = some d53 := by kernel_rfl
theorem c54 : compFn Tryz.prog 8 Tryz.f54 = some d54 := by kernel_rfl
theorem c55 : compFn Tryz.prog 8 Tryz.f55 = some d55 := by kernel_rfl
theorem c56 : compFn Tryz.prog 8 Tryz.f56 = some d56 := by kernel_rfl
theorem c57 : compFn Tryz.prog 8 Tryz.f57 = some d57 := by kernel_rfl
theorem c58 : compFn Tryz.prog 8 Tryz.f58 = some d58 := by kernel_rfl
theorem c59 : compFn Tryz.prog 8 Tryz.f59 = some d59 := by kernel_rfl
theorem c60 : compFn Tryz.prog 8 Tryz.f60 = some d60 := by kernel_rfl
theorem c61 : compFn Tryz.prog 8 Tryz.f61 = some d61 := by kernel_rfl
theorem c62 : compFn Tryz.prog 8 Tryz.f62 = some d62 := by kernel_rfl
theorem c63 : compFn Tryz.prog 8 Tryz.f63 = some d63 := by kernel_rfl
theorem c64 : compFn Tryz.prog 8 Tryz.f64 = some d64 := by kernel_rfl
theorem c65 : compFn Tryz.prog 8 Tryz.f65 = some d65 := by kernel_rfl
theorem c71 : compFn Tryz.prog 8 Tryz.f71 = some d71 := by kernel_rfl
theorem c79 : compFn Tryz.prog 8 Tryz.f79 = some d79 := by kernel_rfl
theorem c80 : compFn Tryz.prog 8 Tryz.f80 = some d80 := by kernel_rfl
theorem c81 : compFn Tryz.prog 8 Tryz.f81 = some d81 := by kernel_rfl
theorem c82 : compFn Tryz.prog 8 Tryz.f82 = some d82 := by kernel_rfl
theorem c84 : compFn Tryz.prog 8 Tryz.f84 = some d84 := by kernel_rfl
theorem c86 : compFn Tryz.prog 8 Tryz.f86 = some d86 := by kernel_rfl
theorem c88 : compFn Tryz.prog 8 Tryz.f88 = some d88 := by kernel_rfl
theorem c89 : compFn Tryz.prog 8 Tryz.f89 = some d89 := by kernel_rfl
theorem c90 : compFn Tryz.prog 8 Tryz.f90 = some d90 := by kernel_rfl
theorem c91 : compFn Tryz.prog 8 Tryz.f91 = some d91 := by kernel_rfl
theorem c92 : compFn Tryz.prog 8 Tryz.f92 = some d92 := by kernel_rfl
theorem c98 : compFn Tryz.prog 8 Tryz.f98 = some d98 := by kernel_rfl
theorem c99 : compFn Tryz.prog 8 Tryz.f99 = some d99 := by kernel_rfl
theorem c100 : compFn Tryz.prog 8 Tryz.f100 = some d100 := by kernel_rfl
theorem c101 : compFn Tryz.prog 8 Tryz.f101 = some d101 := by kernel_rfl
theorem c102 : compFn Tryz.prog 8 Tryz.f102 = some d102 := by kernel_rfl
theorem c103 : compFn Tryz.prog 8 Tryz.f103 = some d103 := by kernel_rfl
theorem c104 : compFn Tryz.prog 8 Tryz.f104 = some d104 := by kernel_rfl
theorem c105 : compFn Tryz.prog 8 Tryz.f105 = some d105 := by kernel_rfl
theorem c106 : compFn Tryz.prog 8 Tryz.f106 = some d106 := by kernel_rfl
theorem c107 : compFn Tryz.prog 8 Tryz.f107 = some d107 := by kernel_rfl
theorem c108 : compFn Tryz.prog 8 Tryz.f108 = some d108 := by kernel_rfl
theorem c109 : compFn Tryz.prog 8 Tryz.f109 = some d109 := by kernel_rfl
theorem c110 : compFn Tryz.prog 8 Tryz.f110 = some d110 := by kernel_rfl
theorem c111 : compFn Tryz.prog 8 Tryz.f111 = some d111 := by kernel_rfl
theorem c112 : compFn Tryz.prog 8 Tryz.f112 = some d112 := by kernel_rfl
theorem c113 : compFn Tryz.prog 8 Tryz.f113 = some d113 := by kernel_rfl
theorem c114 : compFn Tryz.prog 8 Tryz.f114 = some d114 := by kernel_rfl
theorem c115 : compFn Tryz.prog 8 Tryz.f115 = some d115 := by kernel_rfl
theorem c116 : compFn Tryz.prog 8 Tryz.f116 = some d116 := by kernel_rfl
theorem c117 : compFn Tryz.prog 8 Tryz.f117 = some d117 := by kernel_rfl
theorem c118 : compFn Tryz.prog 8 Tryz.f118 = some d118 := by kernel_rfl
theorem c119 : compFn Tryz.prog 8 Tryz.f119 = some d119 := by kernel_rfl
theorem c120 : compFn Tryz.prog 8 Tryz.f120 = some d120 := by kernel_rfl
theorem c121 : compFn Tryz.prog 8 Tryz.f121 = some d121 := by kernel_rfl
theorem c128 : compFn Tryz.prog 8 Tryz.f128 = some d128 := by kernel_rfl
theorem c129 : compFn Tryz.prog 8 Tryz.f129 = some d129 := by kernel_rfl
theorem c130 : compFn Tryz.prog 8 Tryz.f130 = some d130 := by kernel_rfl
theorem c135 : compFn Tryz.prog 8 Tryz.f135 = some d135 := by kernel_rfl
theorem c143 : compFn Tryz.prog 8 Tryz.f143 = some d143 := by kernel_rfl
theorem c144 : compFn Tryz.prog 8 Tryz.f144 = some d144 := by kernel_rfl
theorem c145 : compFn Tryz.prog 8 Tryz.f145 = some d145 := by kernel_rfl
theorem c150 : compFn Tryz.prog 8 Tryz.f150 = some d150 := by kernel_rfl
theorem c151 : compFn Tryz.prog 8 Tryz.f151 = some d151 := by kernel_rfl
theorem c153 : compFn Tryz.prog 8 Tryz.f153 = some d153 := by kernel_rfl
theorem c154 : compFn Tryz.prog 8 Tryz.f154 = some d154 := by kernel_rfl
theorem c156 : compFn Tryz.prog 8 Tryz.f156 = some d156 := by kernel_rfl
theorem c157 : compFn Tryz.prog 8 Tryz.f157 = some d157 := by kernel_rfl
theorem c158 : compFn Tryz.prog 8 Tryz.f158 = some d158 := by kernel_rfl
theorem c159 : compFn Tryz.prog 8 Tryz.f159 = some d159 := by kernel_rfl
theorem c168 : compFn Tryz.prog 8 Tryz.f168 = some d168 := by kernel_rfl
theorem c169 : compFn Tryz.prog 8 Tryz.f169 = some d169 := by kernel_rfl
theorem c170 : compFn Tryz.prog 8 Tryz.f170 = some d170 := by kernel_rfl
theorem c171 : compFn Tryz.prog 8 Tryz.f171 = some d171 := by kernel_rfl
theorem c172 : compFn Tryz.prog 8 Tryz.f172 = some d172 := by kernel_rfl
theorem c173 : compFn Tryz.prog 8 Tryz.f173 = some d173 := by kernel_rfl
theorem c174 : compFn Tryz.prog 8 Tryz.f174 = some d174 := by kernel_rfl
theorem c175 : compFn Tryz.prog 8 Tryz.f175 = some d175 := by kernel_rfl
theorem c177 : compFn Tryz.prog 8 Tryz.f177 = some d177 := by kernel_rfl
theorem c178 : compFn Tryz.prog 8 Tryz.f178 = some d178 := by kernel_rfl
theorem c179 : compFn Tryz.prog 8 Tryz.f179 = some d179 := by kernel_rfl
theorem c180 : compFn Tryz.prog 8 Tryz.f180 = some d180 := by kernel_rfl
theorem c181 : compFn Tryz.prog 8 Tryz.f181 = some d181 := by kernel_rfl
theorem c182 : compFn Tryz.prog 8 Tryz.f182 = some d182 := by kernel_rfl
theorem c184 : compFn Tryz.prog 8 Tryz.f184 = some d184 := by kernel_rfl
theorem c185 : compFn Tryz.prog 8 Tryz.f185 = some d185 := by kernel_rfl
theorem c186 : compFn Tryz.prog 8 Tryz.f186 = some d186 := by kernel_rfl
theorem c187 : compFn Tryz.prog 8 Tryz.f187 = some d187 := by kernel_rfl
theorem c197 : compFn Tryz.prog 8 Tryz.f197 = some d197 := by kernel_rfl
theorem c200 : compFn Tryz.prog 8 Tryz.f200 = some d200 := by kernel_rfl
theorem c201 : compFn Tryz.prog 8 Tryz.f201 = some d201 := by kernel_rfl
theorem c203 : compFn Tryz.prog 8 Tryz.f203 = some d203 := by kernel_rfl
theorem c204 : compFn Tryz.prog 8 Tryz.f204 = some d204 := by kernel_rfl
theorem c205 : compFn Tryz.prog 8 Tryz.f205 = some d205 := by kernel_rfl
theorem c206 : compFn Tryz.prog 8 Tryz.f206 = some d206 := by kernel_rfl
theorem c207 : compFn Tryz.prog 8 Tryz.f207 = some d207 := by kernel_rfl
theorem c209 : compFn Tryz.prog 8 Tryz.f209 = some d209 := by kernel_rfl
theorem c210 : compFn Tryz.prog 8 Tryz.f210 = some d210 := by kernel_rfl
theorem c211 : compFn Tryz.prog 8 Tryz.f211 = some d211 := by kernel_rfl
theorem c219 : compFn Tryz.prog 8 Tryz.f219 = some d219 := by kernel_rfl
theorem c220 : compFn Tryz.prog 8 Tryz.f220 = some d220 := by kernel_rfl
theorem c221 : compFn Tryz.prog 8 Tryz.f221 = some d221 := by kernel_rfl
theorem c222 : compFn Tryz.prog 8 Tryz.f222 = some d222 := by kernel_rfl
theorem c223 : compFn Tryz.prog 8 Tryz.f223 = some d223 := by kernel_rfl
theorem c229 : compFn Tryz.prog 8 Tryz.f229 = some d229 := by kernel_rfl
theorem c230 : compFn Tryz.prog 8 Tryz.f230 = some d230 := by kernel_rfl
theorem c240 : compFn Tryz.prog 8 Tryz.f240 = some d240 := by kernel_rfl
theorem c242 : compFn Tryz.prog 8 Tryz.f242 = some d242 := by kernel_rfl
theorem c243 : compFn Tryz.prog 8 Tryz.f243 = some d243 := by kernel_rfl
theorem c245 : compFn Tryz.prog 8 Tryz.f245 = some d245 := by kernel_rfl
theorem c247 : compFn Tryz.prog 8 Tryz.f247 = some d247 := by kernel_rfl
theorem c248 : compFn Tryz.prog 8 Tryz.f248 = some d248 := by kernel_rfl
theorem c249 : compFn Tryz.prog 8 Tryz.f249 = some d249 := by kernel_rfl
theorem c259 : compFn Tryz.prog 8 Tryz.f259 = some d259 := by kernel_rfl
theorem c260 : compFn Tryz.prog 8 Tryz.f260 = some d260 := by kernel_rfl
theorem c261 : compFn Tryz.prog 8 Tryz.f261 = some d261 := by kernel_rfl
theorem c262 : compFn Tryz.prog 8 Tryz.f262 = some d262 := by kernel_rfl
theorem c267 : compFn Tryz.prog 8 Tryz.f267 = some d267 := by kernel_rfl
theorem c268 : compFn Tryz.prog 8 Tryz.f268 = some d268 := by kernel_rfl
theorem c275 : compFn Tryz.prog 8 Tryz.f275 = some d275 := by kernel_rfl
theorem c277 : compFn Tryz.prog 8 Tryz.f277 = some d277 := by kernel_rfl
theorem c278 : compFn Tryz.prog 8 Tryz.f278 = some d278 := by kernel_rfl
theorem c279 : compFn Tryz.prog 8 Tryz.f279 = some d279 := by kernel_rfl
theorem c286 : compFn Tryz.prog 8 Tryz.f286 = some d286 := by kernel_rfl
theorem c287 : compFn Tryz.prog 8 Tryz.f287 = some d287 := by kernel_rfl
theorem c288 : compFn Tryz.prog 8 Tryz.f288 = some d288 := by kernel_rfl
theorem c300 : compFn Tryz.prog 8 Tryz.f300 = some d300 := by kernel_rfl
theorem c307 : compFn Tryz.prog 8 Tryz.f307 = some d307 := by kernel_rfl
theorem c311 : compFn Tryz.prog 8 Tryz.f311 = some d311 := by kernel_rfl
theorem c347 : compFn Tryz.prog 8 Tryz.f347 = some d347 := by kernel_rfl
theorem certs : CertAll Tryz.prog 8 fnList :=
  ⟨⟨_, Tryz.func3, c3⟩,
  ⟨⟨_, Tryz.func4, c4⟩,
  ⟨⟨_, Tryz.func5, c5⟩,
  ⟨⟨_, Tryz.func6, c6⟩,
  ⟨⟨_, Tryz.func7, c7⟩,
  ⟨⟨_, Tryz.func8, c8⟩,
  ⟨⟨_, Tryz.func9, c9⟩,
  ⟨⟨_, Tryz.func10, c10⟩,
  ⟨⟨_, Tryz.func11, c11⟩,
  ⟨⟨_, Tryz.func12, c12⟩,
  ⟨⟨_, Tryz.func13, c13⟩,
  ⟨⟨_, Tryz.func14, c14⟩,
  ⟨⟨_, Tryz.func15, c15⟩,
  ⟨⟨_, Tryz.func16, c16⟩,
  ⟨⟨_, Tryz.func17, c17⟩,
  ⟨⟨_, Tryz.func18, c18⟩,
  ⟨⟨_, Tryz.func19, c19⟩,
  ⟨⟨_, Tryz.func20, c20⟩,
  ⟨⟨_, Tryz.func21, c21⟩,
  ⟨⟨_, Tryz.func22, c22⟩,
  ⟨⟨_, Tryz.func23, c23⟩,
  ⟨⟨_, Tryz.func24, c24⟩,
  ⟨⟨_, Tryz.func25, c25⟩,
  ⟨⟨_, Tryz.func26, c26⟩,
  ⟨⟨_, Tryz.func27, c27⟩,
  ⟨⟨_, Tryz.func29, c29⟩,
  ⟨⟨_, Tryz.func30, c30⟩,
  ⟨⟨_, Tryz.func35, c35⟩,
  ⟨⟨_, Tryz.func36, c36⟩,
  ⟨⟨_, Tryz.func37, c37⟩,
  ⟨⟨_, Tryz.func39, c39⟩,
  ⟨⟨_, Tryz.func40, c40⟩,
  ⟨⟨_, Tryz.func41, c41⟩,
  ⟨⟨_, Tryz.func42, c42⟩,
  ⟨⟨_, Tryz.func43, c43⟩,
  ⟨⟨_, Tryz.func44, c44⟩,
  ⟨⟨_, Tryz.func45, c45⟩,
  ⟨⟨_, Tryz.func46, c46⟩,
  ⟨⟨_, Tryz.func51, c51⟩,
  ⟨⟨_, Tryz.func52, c52⟩,
  ⟨⟨_, Tryz.func53, c53⟩,
  ⟨⟨_, Tryz.func54, c54⟩,
  ⟨⟨_, Tryz.func55, c55⟩,
  ⟨⟨_, Tryz.func56, c56⟩,
  ⟨⟨_, Tryz.func57, c57⟩,
  ⟨⟨_, Tryz.func58, c58⟩,
  ⟨⟨_, Tryz.func59, c59⟩,
  ⟨⟨_, Tryz.func60, c60⟩,
  ⟨⟨_, Tryz.func61, c61⟩,
  ⟨⟨_, Tryz.func62, c62⟩,
  ⟨⟨_, Tryz.func63, c63⟩,
  ⟨⟨_, Tryz.func64, c64⟩,
  ⟨⟨_, Tryz.func65, c65⟩,
  ⟨⟨_, Tryz.func71, c71⟩,
  ⟨⟨_, Tryz.func79, c79⟩,
  ⟨⟨_, Tryz.func80, c80⟩,
  ⟨⟨_, Tryz.func81, c81⟩,
  ⟨⟨_, Tryz.func82, c82⟩,
  ⟨⟨_, Tryz.func84, c84⟩,
  ⟨⟨_, Tryz.func86, c86⟩,
  ⟨⟨_, Tryz.func88, c88⟩,
  ⟨⟨_, Tryz.func89, c89⟩,
  ⟨⟨_, Tryz.func90, c90⟩,
  ⟨⟨_, Tryz.func91, c91⟩,
  ⟨⟨_, Tryz.func92, c92⟩,
  ⟨⟨_, Tryz.func98, c98⟩,
  ⟨⟨_, Tryz.func99, c99⟩,
  ⟨⟨_, Tryz.func100, c100⟩,
  ⟨⟨_, Tryz.func101, c101⟩,
  ⟨⟨_, Tryz.func102, c102⟩,
  ⟨⟨_, Tryz.func103, c103⟩,
  ⟨⟨_, Tryz.func104, c104⟩,
  ⟨⟨_, Tryz.func105, c105⟩,
  ⟨⟨_, Tryz.func106, c106⟩,
  ⟨⟨_, Tryz.func107, c107⟩,
  ⟨⟨_, Tryz.func108, c108⟩,
  ⟨⟨_, Tryz.func109, c109⟩,
  ⟨⟨_, Tryz.func110, c110⟩,
  ⟨⟨_, Tryz.func111, c111⟩,
  ⟨⟨_, Tryz.func112, c112⟩,
  ⟨⟨_, Tryz.func113, c113⟩,
  ⟨⟨_, Tryz.func114, c114⟩,
  ⟨⟨_, Tryz.func115, c115⟩,
  ⟨⟨_, Tryz.func116, c116⟩,
  ⟨⟨_, Tryz.func117, c117⟩,
  ⟨⟨_, Tryz.func118, c118⟩,
  ⟨⟨_, Tryz.func119, c119⟩,
  ⟨⟨_, Tryz.func120, c120⟩,
  ⟨⟨_, Tryz.func121, c121⟩,
  ⟨⟨_, Tryz.func128, c128⟩,
  ⟨⟨_, Tryz.func129, c129⟩,
  ⟨⟨_, Tryz.func130, c130⟩,
  ⟨⟨_, Tryz.func135, c135⟩,
  ⟨⟨_, Tryz.func143, c143⟩,
  ⟨⟨_, Tryz.func144, c144⟩,
  ⟨⟨_, Tryz.func145, c145⟩,
  ⟨⟨_, Tryz.func150, c150⟩,
  ⟨⟨_, Tryz.func151, c151⟩,
  ⟨⟨_, Tryz.func153, c153⟩,
  ⟨⟨_, Tryz.func154, c154⟩,
  ⟨⟨_, Tryz.func156, c156⟩,
  ⟨⟨_, Tryz.func157, c157⟩,
  ⟨⟨_, Tryz.func158, c158⟩,
  ⟨⟨_, Tryz.func159, c159⟩,
  ⟨⟨_, Tryz.func168, c168⟩,
  ⟨⟨_, Tryz.func169, c169⟩,
  ⟨⟨_, Tryz.func170, c170⟩,
  ⟨⟨_, Tryz.func171, c171⟩,
  ⟨⟨_, Tryz.func172, c172⟩,
  ⟨⟨_, Tryz.func173, c173⟩,
  ⟨⟨_, Tryz.func174, c174⟩,
  ⟨⟨_, Tryz.func175, c175⟩,
  ⟨⟨_, Tryz.func177, c177⟩,
  ⟨⟨_, Tryz.func178, c178⟩,
  ⟨⟨_, Tryz.func179, c179⟩,
  ⟨⟨_, Tryz.func180, c180⟩,
  ⟨⟨_, Tryz.func181, c181⟩,
  ⟨⟨_, Tryz.func182, c182⟩,
  ⟨⟨_, Tryz.func184, c184⟩,
  ⟨⟨_, Tryz.func185, c185⟩,
  ⟨⟨_, Tryz.func186, c186⟩,
  ⟨⟨_, Tryz.func187, c187⟩,
  ⟨⟨_, Tryz.func197, c197⟩,
  ⟨⟨_, Tryz.func200, c200⟩,
  ⟨⟨_, Tryz.func201, c201⟩,
  ⟨⟨_, Tryz.func203, c203⟩,
  ⟨⟨_, Tryz.func204, c204⟩,
  ⟨⟨_, Tryz.func205, c205⟩,
  ⟨⟨_, Tryz.func206, c206⟩,
  ⟨⟨_, Tryz.func207, c207⟩,
  ⟨⟨_, Tryz.func209, c209⟩,
  ⟨⟨_, Tryz.func210, c210⟩,
  ⟨⟨_, Tryz.func211, c211⟩,
  ⟨⟨_, Tryz.func219, c219⟩,
  ⟨⟨_, Tryz.func220, c220⟩,
  ⟨⟨_, Tryz.func221, c221⟩,
  ⟨⟨_, Tryz.func222, c222⟩,
  ⟨⟨_, Tryz.func223, c223⟩,
  ⟨⟨_, Tryz.func229, c229⟩,
  ⟨⟨_, Tryz.func230, c230⟩,
  ⟨⟨_, Tryz.func240, c240⟩,
  ⟨⟨_, Tryz.func242, c242⟩,
  ⟨⟨_, Tryz.func243, c243⟩,
  ⟨⟨_, Tryz.func245, c245⟩,
  ⟨⟨_, Tryz.func247, c247⟩,
  ⟨⟨_, Tryz.func248, c248⟩,
  ⟨⟨_, Tryz.func249, c249⟩,
  ⟨⟨_, Tryz.func259, c259⟩,
  ⟨⟨_, Tryz.func260, c260⟩,
  ⟨⟨_, Tryz.func261, c261⟩,
  ⟨⟨_, Tryz.func262, c262⟩,
  ⟨⟨_, Tryz.func267, c267⟩,
  ⟨⟨_, Tryz.func268, c268⟩,
  ⟨⟨_, Tryz.func275, c275⟩,
  ⟨⟨_, Tryz.func277, c277⟩,
  ⟨⟨_, Tryz.func278, c278⟩,
  ⟨⟨_, Tryz.func279, c279⟩,
  ⟨⟨_, Tryz.func286, c286⟩,
  ⟨⟨_, Tryz.func287, c287⟩,
  ⟨⟨_, Tryz.func288, c288⟩,
  ⟨⟨_, Tryz.func300, c300⟩,
  ⟨⟨_, Tryz.func307, c307⟩,
  ⟨⟨_, Tryz.func311, c311⟩,
  ⟨⟨_, Tryz.func347, c347⟩,
  trivial⟩⟩⟩⟩⟩⟩⟩⟩⟩⟩⟩⟩⟩⟩⟩⟩⟩⟩⟩⟩⟩⟩⟩⟩⟩⟩⟩⟩⟩⟩⟩⟩⟩⟩⟩⟩⟩⟩⟩⟩⟩⟩⟩⟩⟩⟩⟩⟩⟩⟩⟩⟩⟩⟩⟩⟩⟩⟩⟩⟩⟩⟩⟩⟩⟩⟩⟩⟩⟩⟩⟩⟩⟩⟩⟩⟩⟩⟩⟩⟩⟩⟩⟩⟩⟩⟩⟩⟩⟩⟩⟩⟩⟩⟩⟩⟩⟩⟩⟩⟩⟩⟩⟩⟩⟩⟩⟩⟩⟩⟩⟩⟩⟩⟩⟩⟩⟩⟩⟩⟩⟩⟩⟩⟩⟩⟩⟩⟩⟩⟩⟩⟩⟩⟩⟩⟩⟩⟩⟩⟩⟩⟩⟩⟩⟩⟩⟩⟩⟩⟩⟩⟩⟩⟩⟩⟩⟩⟩⟩⟩⟩⟩⟩⟩
theorem tree : T.ofList fnList = fns := by kernel_rfl
theorem small : allSmall fnList = true := by kernel_rfl
theorem fns_ok : FnsOk Tryz.prog 8 fns := fnsOk_of tree small certs
end KD
