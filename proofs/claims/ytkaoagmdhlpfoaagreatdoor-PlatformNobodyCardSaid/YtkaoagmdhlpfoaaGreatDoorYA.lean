/-
  The labels.
  What was asked of the functions of bytes alone, and what they came to.
  A deferred function that looks for a panic, where there is none: it leaves all as it is.
  What the machine runs: all of the program's functions, but those that are taken by what they do.
-/
import Derived.Test.YtkaoagmdhlpfoaaGreatDoorXH
import Derived.Test.YtkaoagmdhlpfoaaGreatDoorXG
import Derived.Recover
import Derived.Test.YtkaoagmdhlpfoaaGreatDoorProg
import Derived.WalkKit
import Derived.KernelRfl
import Derived.Test.YtkaoagmdhlpfoaaGreatDoorXI
import Derived.Test.YtkaoagmdhlpfoaaGreatDoorXA
namespace PK
open Go Go.Dx Go.Proofs
abbrev q0 : Lb := []
abbrev q1 : Lb := [true]
abbrev q2 : Lb := [false,true]
abbrev q3 : Lb := [true,true]
abbrev q4 : Lb := [false,false,true]
abbrev q5 : Lb := [true,false,true]
abbrev q6 : Lb := [false,true,true]
abbrev q7 : Lb := [true,true,true]
abbrev q8 : Lb := [false,false,false,true]
abbrev q9 : Lb := [true,false,false,true]
abbrev q10 : Lb := [false,true,false,true]
abbrev q11 : Lb := [true,true,false,true]
abbrev q12 : Lb := [false,false,true,true]
abbrev q13 : Lb := [true,false,true,true]
abbrev q14 : Lb := [false,true,true,true]
abbrev q15 : Lb := [true,true,true,true]
abbrev q16 : Lb := [false,false,false,false,true]
abbrev q17 : Lb := [true,false,false,false,true]
abbrev q18 : Lb := [false,true,false,false,true]
abbrev q19 : Lb := [true,true,false,false,true]
abbrev q20 : Lb := [false,false,true,false,true]
abbrev q21 : Lb := [true,false,true,false,true]
abbrev q22 : Lb := [false,true,true,false,true]
abbrev q29 : Lb := [true,false,true,true,true]
abbrev q32 : Lb := [false,false,false,false,false,true]
abbrev q34 : Lb := [false,true,false,false,false,true]
abbrev q36 : Lb := [false,false,true,false,false,true]
abbrev q37 : Lb := [true,false,true,false,false,true]
abbrev q38 : Lb := [false,true,true,false,false,true]
abbrev q45 : Lb := [true,false,true,true,false,true]
abbrev q46 : Lb := [false,true,true,true,false,true]
abbrev q47 : Lb := [true,true,true,true,false,true]
abbrev q54 : Lb := [false,true,true,false,true,true]
abbrev q57 : Lb := [true,false,false,true,true,true]
abbrev q59 : Lb := [true,true,false,true,true,true]
abbrev q61 : Lb := [true,false,true,true,true,true]
abbrev q63 : Lb := [true,true,true,true,true,true]
abbrev q64 : Lb := [false,false,false,false,false,false,true]
abbrev q68 : Lb := [false,false,true,false,false,false,true]
abbrev q70 : Lb := [false,true,true,false,false,false,true]
abbrev q75 : Lb := [true,true,false,true,false,false,true]
abbrev q549 : Lb := [true,false,true,false,false,true,false,false,false,true]
abbrev q550 : Lb := [false,true,true,false,false,true,false,false,false,true]
abbrev q554 : Lb := [false,true,false,true,false,true,false,false,false,true]
abbrev q556 : Lb := [false,false,true,true,false,true,false,false,false,true]
abbrev q558 : Lb := [false,true,true,true,false,true,false,false,false,true]
abbrev q561 : Lb := [true,false,false,false,true,true,false,false,false,true]
abbrev q716 : Lb := [false,false,true,true,false,false,true,true,false,true]
abbrev q721 : Lb := [true,false,false,false,true,false,true,true,false,true]
abbrev q722 : Lb := [false,true,false,false,true,false,true,true,false,true]
abbrev q723 : Lb := [true,true,false,false,true,false,true,true,false,true]
abbrev q964 : Lb := [false,false,true,false,false,false,true,true,true,true]
abbrev q967 : Lb := [true,true,true,false,false,false,true,true,true,true]
abbrev q970 : Lb := [false,true,false,true,false,false,true,true,true,true]
abbrev q972 : Lb := [false,false,true,true,false,false,true,true,true,true]
abbrev q1369 : Lb := [true,false,false,true,true,false,true,false,true,false,true]
abbrev q1497 : Lb := [true,false,false,true,true,false,true,true,true,false,true]
abbrev q1499 : Lb := [true,true,false,true,true,false,true,true,true,false,true]
abbrev q1500 : Lb := [false,false,true,true,true,false,true,true,true,false,true]
abbrev q1927 : Lb := [true,true,true,false,false,false,false,true,true,true,true]
abbrev q2019 : Lb := [true,true,false,false,false,true,true,true,true,true,true]
abbrev q2221 : Lb := [true,false,true,true,false,true,false,true,false,false,false,true]
abbrev q2222 : Lb := [false,true,true,true,false,true,false,true,false,false,false,true]
abbrev q2233 : Lb := [true,false,false,true,true,true,false,true,false,false,false,true]
abbrev q2234 : Lb := [false,true,false,true,true,true,false,true,false,false,false,true]
abbrev q2235 : Lb := [true,true,false,true,true,true,false,true,false,false,false,true]
abbrev q2236 : Lb := [false,false,true,true,true,true,false,true,false,false,false,true]
abbrev q2238 : Lb := [false,true,true,true,true,true,false,true,false,false,false,true]
abbrev q2665 : Lb := [true,false,false,true,false,true,true,false,false,true,false,true]
abbrev q2757 : Lb := [true,false,true,false,false,false,true,true,false,true,false,true]
abbrev q2959 : Lb := [true,true,true,true,false,false,false,true,true,true,false,true]
abbrev q2960 : Lb := [false,false,false,false,true,false,false,true,true,true,false,true]
abbrev q2961 : Lb := [true,false,false,false,true,false,false,true,true,true,false,true]
abbrev q2962 : Lb := [false,true,false,false,true,false,false,true,true,true,false,true]
abbrev q2965 : Lb := [true,false,true,false,true,false,false,true,true,true,false,true]
abbrev q3093 : Lb := [true,false,true,false,true,false,false,false,false,false,true,true]
abbrev q3095 : Lb := [true,true,true,false,true,false,false,false,false,false,true,true]
abbrev q3149 : Lb := [true,false,true,true,false,false,true,false,false,false,true,true]
abbrev q3207 : Lb := [true,true,true,false,false,false,false,true,false,false,true,true]
abbrev q3212 : Lb := [false,false,true,true,false,false,false,true,false,false,true,true]
abbrev q3214 : Lb := [false,true,true,true,false,false,false,true,false,false,true,true]
abbrev q3216 : Lb := [false,false,false,false,true,false,false,true,false,false,true,true]
abbrev q3228 : Lb := [false,false,true,true,true,false,false,true,false,false,true,true]
abbrev q3239 : Lb := [true,true,true,false,false,true,false,true,false,false,true,true]
abbrev q3240 : Lb := [false,false,false,true,false,true,false,true,false,false,true,true]
abbrev q3411 : Lb := [true,true,false,false,true,false,true,false,true,false,true,true]
abbrev q3908 : Lb := [false,false,true,false,false,false,true,false,true,true,true,true]
abbrev q3911 : Lb := [true,true,true,false,false,false,true,false,true,true,true,true]
abbrev q3912 : Lb := [false,false,false,true,false,false,true,false,true,true,true,true]
abbrev q3914 : Lb := [false,true,false,true,false,false,true,false,true,true,true,true]
abbrev q3916 : Lb := [false,false,true,true,false,false,true,false,true,true,true,true]
abbrev q3918 : Lb := [false,true,true,true,false,false,true,false,true,true,true,true]
abbrev q3920 : Lb := [false,false,false,false,true,false,true,false,true,true,true,true]
abbrev q4078 : Lb := [false,true,true,true,false,true,true,true,true,true,true,true]
abbrev q4080 : Lb := [false,false,false,false,true,true,true,true,true,true,true,true]
abbrev q4081 : Lb := [true,false,false,false,true,true,true,true,true,true,true,true]
abbrev q4085 : Lb := [true,false,true,false,true,true,true,true,true,true,true,true]
abbrev q4086 : Lb := [false,true,true,false,true,true,true,true,true,true,true,true]
abbrev q4226 : Lb := [false,true,false,false,false,false,false,true,false,false,false,false,true]
abbrev q4227 : Lb := [true,true,false,false,false,false,false,true,false,false,false,false,true]
abbrev q4228 : Lb := [false,false,true,false,false,false,false,true,false,false,false,false,true]
abbrev q4621 : Lb := [true,false,true,true,false,false,false,false,false,true,false,false,true]
abbrev q4667 : Lb := [true,true,false,true,true,true,false,false,false,true,false,false,true]
abbrev q4676 : Lb := [false,false,true,false,false,false,true,false,false,true,false,false,true]
abbrev q4682 : Lb := [false,true,false,true,false,false,true,false,false,true,false,false,true]
abbrev q4684 : Lb := [false,false,true,true,false,false,true,false,false,true,false,false,true]
abbrev q4972 : Lb := [false,false,true,true,false,true,true,false,true,true,false,false,true]
abbrev q4974 : Lb := [false,true,true,true,false,true,true,false,true,true,false,false,true]
abbrev q4975 : Lb := [true,true,true,true,false,true,true,false,true,true,false,false,true]
abbrev q5402 : Lb := [false,true,false,true,true,false,false,false,true,false,true,false,true]
abbrev q5494 : Lb := [false,true,true,false,true,true,true,false,true,false,true,false,true]
abbrev q5586 : Lb := [false,true,false,false,true,false,true,true,true,false,true,false,true]
abbrev q5587 : Lb := [true,true,false,false,true,false,true,true,true,false,true,false,true]
abbrev q5598 : Lb := [false,true,true,true,true,false,true,true,true,false,true,false,true]
abbrev q5600 : Lb := [false,false,false,false,false,true,true,true,true,false,true,false,true]
abbrev q6027 : Lb := [true,true,false,true,false,false,false,true,true,true,true,false,true]
abbrev q6119 : Lb := [true,true,true,false,false,true,true,true,true,true,true,false,true]
abbrev q6211 : Lb := [true,true,false,false,false,false,true,false,false,false,false,true,true]
abbrev q6212 : Lb := [false,false,true,false,false,false,true,false,false,false,false,true,true]
abbrev q6213 : Lb := [true,false,true,false,false,false,true,false,false,false,false,true,true]
abbrev q6214 : Lb := [false,true,true,false,false,false,true,false,false,false,false,true,true]
abbrev q6217 : Lb := [true,false,false,true,false,false,true,false,false,false,false,true,true]
abbrev q6512 : Lb := [false,false,false,false,true,true,true,false,true,false,false,true,true]
abbrev q6514 : Lb := [false,true,false,false,true,true,true,false,true,false,false,true,true]
abbrev q6530 : Lb := [false,true,false,false,false,false,false,true,true,false,false,true,true]
abbrev q6532 : Lb := [false,false,true,false,false,false,false,true,true,false,false,true,true]
abbrev q6534 : Lb := [false,true,true,false,false,false,false,true,true,false,false,true,true]
abbrev q6566 : Lb := [false,true,true,false,false,true,false,true,true,false,false,true,true]
abbrev q6568 : Lb := [false,false,false,true,false,true,false,true,true,false,false,true,true]
abbrev q6569 : Lb := [true,false,false,true,false,true,false,true,true,false,false,true,true]
abbrev q6994 : Lb := [false,true,false,false,true,false,true,false,true,true,false,true,true]
abbrev q6995 : Lb := [true,true,false,false,true,false,true,false,true,true,false,true,true]
abbrev q6996 : Lb := [false,false,true,false,true,false,true,false,true,true,false,true,true]
abbrev q7193 : Lb := [true,false,false,true,true,false,false,false,false,false,true,true,true]
abbrev q7195 : Lb := [true,true,false,true,true,false,false,false,false,false,true,true,true]
abbrev q7295 : Lb := [true,true,true,true,true,true,true,false,false,false,true,true,true]
abbrev q7353 : Lb := [true,false,false,true,true,true,false,true,false,false,true,true,true]
abbrev q7358 : Lb := [false,true,true,true,true,true,false,true,false,false,true,true,true]
abbrev q7360 : Lb := [false,false,false,false,false,false,true,true,false,false,true,true,true]
abbrev q7362 : Lb := [false,true,false,false,false,false,true,true,false,false,true,true,true]
abbrev q7386 : Lb := [false,true,false,true,true,false,true,true,false,false,true,true,true]
abbrev q7399 : Lb := [true,true,true,false,false,true,true,true,false,false,true,true,true]
abbrev q7400 : Lb := [false,false,false,true,false,true,true,true,false,false,true,true,true]
abbrev q7569 : Lb := [true,false,false,false,true,false,false,true,true,false,true,true,true]
abbrev q7582 : Lb := [false,true,true,true,true,false,false,true,true,false,true,true,true]
abbrev q7927 : Lb := [true,true,true,false,true,true,true,true,false,true,true,true,true]
abbrev q7932 : Lb := [false,false,true,true,true,true,true,true,false,true,true,true,true]
abbrev q7934 : Lb := [false,true,true,true,true,true,true,true,false,true,true,true,true]
abbrev q7936 : Lb := [false,false,false,false,false,false,false,false,true,true,true,true,true]
abbrev q7938 : Lb := [false,true,false,false,false,false,false,false,true,true,true,true,true]
abbrev q7944 : Lb := [false,false,false,true,false,false,false,false,true,true,true,true,true]
abbrev q8098 : Lb := [false,true,false,false,false,true,false,true,true,true,true,true,true]
abbrev q8099 : Lb := [true,true,false,false,false,true,false,true,true,true,true,true,true]
abbrev q8100 : Lb := [false,false,true,false,false,true,false,true,true,true,true,true,true]
abbrev q8146 : Lb := [false,true,false,false,true,false,true,true,true,true,true,true,true]
abbrev q8155 : Lb := [true,true,false,true,true,false,true,true,true,true,true,true,true]
abbrev q8161 : Lb := [true,false,false,false,false,true,true,true,true,true,true,true,true]
abbrev q8170 : Lb := [false,true,false,true,false,true,true,true,true,true,true,true,true]
abbrev N (n : Nat) : V := .int .i64 (.ofNat n)
end PK
namespace PK
open Go Go.Dx Go.Proofs
def t50_0 : List Key × V := ([.b [115, 101, 99, 114, 101, 116, 32, 49] (.toEnd 1)], (.agg (natCells [84, 133, 203, 93, 3, 152, 28, 195, 189, 152, 146, 144, 166, 190, 51, 202, 57, 44, 1, 50, 121, 165, 195, 195, 253, 16, 161, 202, 229, 126, 20, 96])))
def t50_1 : List Key × V := ([.b [98, 179, 253, 107, 53, 174, 42, 245, 139, 174, 164, 166, 144, 136, 5, 252, 15, 26, 55, 4, 79, 147, 245, 245, 203, 38, 151, 252, 211, 72, 34, 86, 54, 54, 54, 54, 54, 54, 54, 54, 54, 54, 54, 54, 54, 54, 54, 54, 54, 54, 54, 54, 54, 54, 54, 54, 54, 54, 54, 54, 54, 54, 54, 54, 1, 2, 99, 49, 1, 103, 253, 1, 0, 0, 0, 0, 0] (.toEnd 1)], (.agg (natCells [199, 134, 99, 44, 119, 35, 246, 207, 116, 31, 33, 200, 195, 190, 139, 76, 24, 117, 218, 219, 60, 231, 183, 175, 141, 229, 109, 24, 222, 83, 26, 53])))
def t50_2 : List Key × V := ([.b [8, 217, 151, 1, 95, 196, 64, 159, 225, 196, 206, 204, 250, 226, 111, 150, 101, 112, 93, 110, 37, 249, 159, 159, 161, 76, 253, 150, 185, 34, 72, 60, 92, 92, 92, 92, 92, 92, 92, 92, 92, 92, 92, 92, 92, 92, 92, 92, 92, 92, 92, 92, 92, 92, 92, 92, 92, 92, 92, 92, 92, 92, 92, 92, 199, 134, 99, 44, 119, 35, 246, 207, 116, 31, 33, 200, 195, 190, 139, 76, 24, 117, 218, 219, 60, 231, 183, 175, 141, 229, 109, 24, 222, 83, 26, 53] (.toEnd 1)], (.agg (natCells [150, 225, 3, 12, 229, 103, 197, 34, 148, 238, 180, 232, 107, 102, 48, 26, 248, 217, 73, 98, 150, 141, 150, 211, 15, 83, 185, 145, 87, 206, 126, 149])))
def tab50 : List (List Key × V) := [t50_0, t50_1, t50_2]
def t381_0 : List Key × V := ([.b [0, 0, 98, 1, 1, 1, 1, 21, 113, 47, 48, 48, 48, 48, 48, 48, 48, 48, 48, 48, 48, 48, 48, 48, 48, 48, 48, 48, 49, 0, 70, 123, 34, 99, 108, 105, 101, 110, 116, 34, 58, 34, 99, 49, 34, 44, 34, 105, 100, 34, 58, 49, 44, 34, 109, 34, 58, 123, 34, 105, 115, 115, 117, 101, 34, 58, 34, 97, 34, 44, 34, 107, 105, 110, 100, 34, 58, 49, 44, 34, 110, 97, 109, 101, 34, 58, 34, 34, 44, 34, 116, 101, 120, 116, 34, 58, 34, 116, 34, 125, 125] (.toEnd 1)], (.int .u32 3144958559))
def t381_1 : List Key × V := ([.b [0, 0, 148, 1, 1, 1, 3, 15, 109, 47, 48, 48, 48, 48, 48, 48, 48, 48, 48, 48, 48, 48, 49, 0, 70, 123, 34, 99, 108, 105, 101, 110, 116, 34, 58, 34, 99, 49, 34, 44, 34, 105, 100, 34, 58, 49, 44, 34, 109, 34, 58, 123, 34, 105, 115, 115, 117, 101, 34, 58, 34, 97, 34, 44, 34, 107, 105, 110, 100, 34, 58, 49, 44, 34, 110, 97, 109, 101, 34, 58, 34, 34, 44, 34, 116, 101, 120, 116, 34, 58, 34, 116, 34, 125, 125, 4, 110, 47, 99, 49, 0, 1, 49, 5, 100, 47, 105, 47, 97, 0, 40, 123, 34, 111, 119, 110, 101, 114, 34, 58, 34, 34, 44, 34, 115, 116, 97, 116, 117, 115, 34, 58, 34, 111, 112, 101, 110, 34, 44, 34, 116, 105, 116, 108, 101, 34, 58, 34, 116, 34, 125] (.toEnd 1)], (.int .u32 24327344))
def t381_2 : List Key × V := ([.b [0, 0, 121, 2, 1, 2, 2, 21, 98, 47, 48, 48, 48, 48, 48, 48, 48, 48, 48, 48, 48, 48, 48, 48, 48, 48, 48, 48, 49, 0, 70, 123, 34, 99, 108, 105, 101, 110, 116, 34, 58, 34, 99, 49, 34, 44, 34, 105, 100, 34, 58, 49, 44, 34, 109, 34, 58, 123, 34, 105, 115, 115, 117, 101, 34, 58, 34, 97, 34, 44, 34, 107, 105, 110, 100, 34, 58, 49, 44, 34, 110, 97, 109, 101, 34, 58, 34, 34, 44, 34, 116, 101, 120, 116, 34, 58, 34, 116, 34, 125, 125, 21, 113, 47, 48, 48, 48, 48, 48, 48, 48, 48, 48, 48, 48, 48, 48, 48, 48, 48, 48, 48, 49, 1] (.toEnd 1)], (.int .u32 1935283268))
def tab381 : List (List Key × V) := [t381_0, t381_1, t381_2]
def t499_0 : List Key × V := ([.s [80, 79, 83, 84, 32, 47, 112, 117, 115, 104, 32, 72, 84, 84, 80, 47, 49, 46, 49, 13, 10, 104, 111, 115, 116, 58, 32, 115, 101, 114, 118, 101, 114, 13, 10, 97, 117, 116, 104, 111, 114, 105, 122, 97, 116, 105, 111, 110, 58, 32, 66, 101, 97, 114, 101, 114, 32, 65, 81, 74, 106, 77, 81, 70, 110, 95, 81, 69, 65, 65, 65, 65, 65, 65, 65, 46, 108, 117, 69, 68, 68, 79, 86, 110, 120, 83, 75, 85, 55, 114, 84, 111, 97, 50, 89, 119, 71, 118, 106, 90, 83, 87, 75, 87, 106, 90, 98, 84, 68, 49, 79, 53, 107, 86, 102, 79, 102, 112, 85, 13, 10, 99, 111, 110, 116, 101, 110, 116, 45, 108, 101, 110, 103, 116, 104, 58, 32, 57, 53],.s [13, 10]], (N 19))
def t499_1 : List Key × V := ([.s [104, 111, 115, 116, 58, 32, 115, 101, 114, 118, 101, 114, 13, 10, 97, 117, 116, 104, 111, 114, 105, 122, 97, 116, 105, 111, 110, 58, 32, 66, 101, 97, 114, 101, 114, 32, 65, 81, 74, 106, 77, 81, 70, 110, 95, 81, 69, 65, 65, 65, 65, 65, 65, 65, 46, 108, 117, 69, 68, 68, 79, 86, 110, 120, 83, 75, 85, 55, 114, 84, 111, 97, 50, 89, 119, 71, 118, 106, 90, 83, 87, 75, 87, 106, 90, 98, 84, 68, 49, 79, 53, 107, 86, 102, 79, 102, 112, 85, 13, 10, 99, 111, 110, 116, 101, 110, 116, 45, 108, 101, 110, 103, 116, 104, 58, 32, 57, 53],.s [13, 10]], (N 12))
def t499_2 : List Key × V := ([.s [97, 117, 116, 104, 111, 114, 105, 122, 97, 116, 105, 111, 110, 58, 32, 66, 101, 97, 114, 101, 114, 32, 65, 81, 74, 106, 77, 81, 70, 110, 95, 81, 69, 65, 65, 65, 65, 65, 65, 65, 46, 108, 117, 69, 68, 68, 79, 86, 110, 120, 83, 75, 85, 55, 114, 84, 111, 97, 50, 89, 119, 71, 118, 106, 90, 83, 87, 75, 87, 106, 90, 98, 84, 68, 49, 79, 53, 107, 86, 102, 79, 102, 112, 85, 13, 10, 99, 111, 110, 116, 101, 110, 116, 45, 108, 101, 110, 103, 116, 104, 58, 32, 57, 53],.s [13, 10]], (N 84))
def t499_3 : List Key × V := ([.s [99, 111, 110, 116, 101, 110, 116, 45, 108, 101, 110, 103, 116, 104, 58, 32, 57, 53],.s [13, 10]], (.int .i64 (-1)))
def t499_4 : List Key × V := ([.s [80, 79, 83, 84, 32, 47, 112, 117, 115, 104, 32, 72, 84, 84, 80, 47, 49, 46, 49],.s [32]], (N 4))
def t499_5 : List Key × V := ([.s [47, 112, 117, 115, 104, 32, 72, 84, 84, 80, 47, 49, 46, 49],.s [32]], (N 5))
def t499_6 : List Key × V := ([.s [65, 81, 74, 106, 77, 81, 70, 110, 95, 81, 69, 65, 65, 65, 65, 65, 65, 65, 46, 108, 117, 69, 68, 68, 79, 86, 110, 120, 83, 75, 85, 55, 114, 84, 111, 97, 50, 89, 119, 71, 118, 106, 90, 83, 87, 75, 87, 106, 90, 98, 84, 68, 49, 79, 53, 107, 86, 102, 79, 102, 112, 85],.s [46]], (N 18))
def t499_7 : List Key × V := ([.s [72, 84, 84, 80, 47, 49, 46, 49, 32, 50, 48, 48, 32, 79, 75, 13, 10, 99, 111, 110, 116, 101, 110, 116, 45, 116, 121, 112, 101, 58, 32, 97, 112, 112, 108, 105, 99, 97, 116, 105, 111, 110, 47, 106, 115, 111, 110, 13, 10, 99, 111, 110, 116, 101, 110, 116, 45, 108, 101, 110, 103, 116, 104, 58, 32, 51, 52],.s [13, 10]], (N 15))
def t499_8 : List Key × V := ([.s [99, 111, 110, 116, 101, 110, 116, 45, 116, 121, 112, 101, 58, 32, 97, 112, 112, 108, 105, 99, 97, 116, 105, 111, 110, 47, 106, 115, 111, 110, 13, 10, 99, 111, 110, 116, 101, 110, 116, 45, 108, 101, 110, 103, 116, 104, 58, 32, 51, 52],.s [13, 10]], (N 30))
def t499_9 : List Key × V := ([.s [99, 111, 110, 116, 101, 110, 116, 45, 108, 101, 110, 103, 116, 104, 58, 32, 51, 52],.s [13, 10]], (.int .i64 (-1)))
def t499_10 : List Key × V := ([.s [99, 111, 110, 116, 101, 110, 116, 45, 116, 121, 112, 101, 58, 32, 97, 112, 112, 108, 105, 99, 97, 116, 105, 111, 110, 47, 106, 115, 111, 110],.s [58, 32]], (N 12))
def t499_11 : List Key × V := ([.s [80, 79, 83, 84, 32, 47, 112, 117, 108, 108, 32, 72, 84, 84, 80, 47, 49, 46, 49, 13, 10, 104, 111, 115, 116, 58, 32, 115, 101, 114, 118, 101, 114, 13, 10, 97, 117, 116, 104, 111, 114, 105, 122, 97, 116, 105, 111, 110, 58, 32, 66, 101, 97, 114, 101, 114, 32, 65, 81, 74, 106, 77, 81, 70, 110, 95, 81, 69, 65, 65, 65, 65, 65, 65, 65, 46, 108, 117, 69, 68, 68, 79, 86, 110, 120, 83, 75, 85, 55, 114, 84, 111, 97, 50, 89, 119, 71, 118, 106, 90, 83, 87, 75, 87, 106, 90, 98, 84, 68, 49, 79, 53, 107, 86, 102, 79, 102, 112, 85, 13, 10, 99, 111, 110, 116, 101, 110, 116, 45, 108, 101, 110, 103, 116, 104, 58, 32, 52, 48],.s [13, 10]], (N 19))
def t499_12 : List Key × V := ([.s [104, 111, 115, 116, 58, 32, 115, 101, 114, 118, 101, 114, 13, 10, 97, 117, 116, 104, 111, 114, 105, 122, 97, 116, 105, 111, 110, 58, 32, 66, 101, 97, 114, 101, 114, 32, 65, 81, 74, 106, 77, 81, 70, 110, 95, 81, 69, 65, 65, 65, 65, 65, 65, 65, 46, 108, 117, 69, 68, 68, 79, 86, 110, 120, 83, 75, 85, 55, 114, 84, 111, 97, 50, 89, 119, 71, 118, 106, 90, 83, 87, 75, 87, 106, 90, 98, 84, 68, 49, 79, 53, 107, 86, 102, 79, 102, 112, 85, 13, 10, 99, 111, 110, 116, 101, 110, 116, 45, 108, 101, 110, 103, 116, 104, 58, 32, 52, 48],.s [13, 10]], (N 12))
def t499_13 : List Key × V := ([.s [97, 117, 116, 104, 111, 114, 105, 122, 97, 116, 105, 111, 110, 58, 32, 66, 101, 97, 114, 101, 114, 32, 65, 81, 74, 106, 77, 81, 70, 110, 95, 81, 69, 65, 65, 65, 65, 65, 65, 65, 46, 108, 117, 69, 68, 68, 79, 86, 110, 120, 83, 75, 85, 55, 114, 84, 111, 97, 50, 89, 119, 71, 118, 106, 90, 83, 87, 75, 87, 106, 90, 98, 84, 68, 49, 79, 53, 107, 86, 102, 79, 102, 112, 85, 13, 10, 99, 111, 110, 116, 101, 110, 116, 45, 108, 101, 110, 103, 116, 104, 58, 32, 52, 48],.s [13, 10]], (N 84))
def t499_14 : List Key × V := ([.s [99, 111, 110, 116, 101, 110, 116, 45, 108, 101, 110, 103, 116, 104, 58, 32, 52, 48],.s [13, 10]], (.int .i64 (-1)))
def t499_15 : List Key × V := ([.s [80, 79, 83, 84, 32, 47, 112, 117, 108, 108, 32, 72, 84, 84, 80, 47, 49, 46, 49],.s [32]], (N 4))
def t499_16 : List Key × V := ([.s [47, 112, 117, 108, 108, 32, 72, 84, 84, 80, 47, 49, 46, 49],.s [32]], (N 5))
def t499_17 : List Key × V := ([.s [72, 84, 84, 80, 47, 49, 46, 49, 32, 50, 48, 48, 32, 79, 75, 13, 10, 99, 111, 110, 116, 101, 110, 116, 45, 116, 121, 112, 101, 58, 32, 97, 112, 112, 108, 105, 99, 97, 116, 105, 111, 110, 47, 106, 115, 111, 110, 13, 10, 99, 111, 110, 116, 101, 110, 116, 45, 108, 101, 110, 103, 116, 104, 58, 32, 49, 51, 51],.s [13, 10]], (N 15))
def t499_18 : List Key × V := ([.s [99, 111, 110, 116, 101, 110, 116, 45, 116, 121, 112, 101, 58, 32, 97, 112, 112, 108, 105, 99, 97, 116, 105, 111, 110, 47, 106, 115, 111, 110, 13, 10, 99, 111, 110, 116, 101, 110, 116, 45, 108, 101, 110, 103, 116, 104, 58, 32, 49, 51, 51],.s [13, 10]], (N 30))
def t499_19 : List Key × V := ([.s [99, 111, 110, 116, 101, 110, 116, 45, 108, 101, 110, 103, 116, 104, 58, 32, 49, 51, 51],.s [13, 10]], (.int .i64 (-1)))
def tab499 : List (List Key × V) := [t499_0, t499_1, t499_2, t499_3, t499_4, t499_5, t499_6, t499_7, t499_8, t499_9, t499_10, t499_11, t499_12, t499_13, t499_14, t499_15, t499_16, t499_17, t499_18, t499_19]
def t230_0 : List Key × V := ([.b [72, 84, 84, 80, 47, 49, 46, 49, 32, 50, 48, 48, 32, 79, 75, 13, 10, 99, 111, 110, 116, 101, 110, 116, 45, 116, 121, 112, 101, 58, 32, 97, 112, 112, 108, 105, 99, 97, 116, 105, 111, 110, 47, 106, 115, 111, 110, 13, 10, 99, 111, 110, 116, 101, 110, 116, 45, 108, 101, 110, 103, 116, 104, 58, 32, 51, 52, 13, 10, 13, 10, 123, 34, 108, 97, 115, 116, 34, 58, 49, 44, 34, 116, 111, 112, 34, 58, 49, 44, 34, 116, 121, 112, 101, 34, 58, 34, 112, 117, 115, 104, 101, 100, 34, 125] (.toEnd 1),.b [13, 10, 13, 10] (.exact 4)], (N 67))
def t230_1 : List Key × V := ([.b [] (.exact 0),.b [13, 10, 13, 10] (.exact 4)], (.int .i64 (-1)))
def t230_2 : List Key × V := ([.b [72, 84, 84, 80, 47, 49, 46, 49, 32, 50, 48, 48, 32, 79, 75, 13, 10, 99, 111, 110, 116, 101, 110, 116, 45, 116, 121, 112, 101, 58, 32, 97, 112, 112, 108, 105, 99, 97, 116, 105, 111, 110, 47, 106, 115, 111, 110, 13, 10, 99, 111, 110, 116, 101, 110, 116, 45, 108, 101, 110, 103, 116, 104, 58, 32, 49, 51, 51, 13, 10, 13, 10, 123, 34, 99, 111, 111, 107, 105, 101, 34, 58, 49, 44, 34, 102, 114, 111, 109, 34, 58, 48, 44, 34, 108, 97, 115, 116, 34, 58, 49, 44, 34, 108, 105, 115, 116, 34, 58, 91, 123, 34, 99, 108, 105, 101, 110, 116, 34, 58, 34, 99, 49, 34, 44, 34, 105, 100, 34, 58, 49, 44, 34, 109, 34, 58, 123, 34, 105, 115, 115, 117, 101, 34, 58, 34, 97, 34, 44, 34, 107, 105, 110, 100, 34, 58, 49, 44, 34, 110, 97, 109, 101, 34, 58, 34, 34, 44, 34, 116, 101, 120, 116, 34, 58, 34, 116, 34, 125, 125, 93, 44, 34, 116, 111, 112, 34, 58, 49, 44, 34, 116, 121, 112, 101, 34, 58, 34, 112, 97, 116, 99, 104, 34, 125] (.toEnd 1),.b [13, 10, 13, 10] (.exact 4)], (N 68))
def tab230 : List (List Key × V) := [t230_0, t230_1, t230_2]
end PK
namespace Go.Dx
open Go Go.RowKit Go.Proofs

def dorc15 : FuncId → List V → H → Option H := fun f args h => match Nat.beq f 284, args with
  | true, [_, _] => some h
  | _, _ => none

theorem wpS_seq_k {P : Program} {Q : Exit → Act → List Frame → World → Prop} {a : Act} {cs : List Frame} {w : World} {x y : Code} (h : ∀ K : Act → List Frame → World → Prop, (∀ a cs w, y.wpS P Q a cs w → K a cs w) → x.wpS P (Exit.thenS K Q) a cs w) : (Code.seq x y).wpS P Q a cs w :=
  wpS_seq (h _ fun _ _ _ h => h)

set_option maxRecDepth 20000 in
theorem read1_late (x y : Value) (w : World) : CallsD Tryz.prog 284 #[x, y] .returning w fun e u' w' => ∃ v, e = .returned v ∧ u' = .returning ∧ w' = w := by
  refine callsD_of_wpS Tryz.func284 rfl fun c₀ cs hu => ?_
  have hrec : recoverD (c₀ :: cs) = none := by simp [recoverD, hu]
  have hc : ({ c₀ with mode := .returning } : Frame) = c₀ := by rw [← hu]
  have h1 : ∀ w, (eqGuard BinOp.eql 20 (.tmp 6) (.const .nilIface) .nilIface .nilIface).run Tryz.prog w = .ok () w := fun w => by kernel_rfl
  have h2 : ∀ w, (Go.binOp .eql 20 .nilIface .nilIface).run Tryz.prog w = .ok (.bool true) w := fun w => by kernel_rfl
  refine wpS_seq_k fun K hK => ?_
  refine wpS_region ?_
  simp [wpOpsS, List.range_succ, Region.wanted, execOp, resolve, invoke, builtin, hrec, Oper.upon, Act.put, Act.eval, Exit.thenS, Tryz.ntmps284]
  refine hK _ _ _ (wpS_seq_k fun K2 hK2 => ?_)
  refine wpS_seq_k fun K3 hK3 => ?_
  refine wpS_region ?_
  simp [wpOpsS, List.range_succ, Region.wanted, execOp, Oper.upon, Act.put, Act.eval, Exit.thenS, h1, h2]
  refine hK3 _ _ _ (wpS_cond (t := true) ?_ ?_)
  · simp [Act.eval]
  · rw [if_pos rfl]
    refine wpS_of_wp (wp_ret ?_)
    exact ⟨rfl, .returning, by rw [hc], .tuple #[], by kernel_rfl, .tuple #[], rfl, rfl, rfl⟩

theorem dorc15_ok {G : Nat} : LateOk Tryz.prog G dorc15 := by
  intro f args h h' hr B w0 ρ w xs R hG hx
  unfold dorc15 at hr
  split at hr
  · rename_i a b he
    cases hr
    have he : f = 284 := Nat.eq_of_beq_eq_true he
    subst he
    obtain ⟨x, y, rfl, _, _⟩ := hx.two
    refine ⟨by kernel_rfl, (read1_late x y w).mono fun e u' w' hh => ?_⟩
    obtain ⟨v, h1, h2, rfl⟩ := hh
    exact ⟨v, h1, h2, ρ, Step.refl _ _, R⟩
  · cases hr

end Go.Dx
namespace PK
open Go Go.Dx Go.Proofs

def ids0 : List (FuncId × Ext) := [(22, .as q0 181 q10 58 [(62, 64, 2)] [(38, 65)] [(38, 64)]), (147, .seq true 3 1 8 [] [86]), (344, .index q2 5), (374, .clone), (384, .same), (385, .noZero 5), (396, .seq true 9 1 16 [375, 292] []),
  (404, .nop), (405, .cas32), (406, .nop), (407, .mark), (409, .mark), (410, .add32), (438, .indexByteB 5), (504, .indexByte), (510, .seq false 152 2 32 [] [460]), (512, .compare), (538, .index q2 5)]
def roundsObj : Dx.Obj := .cells [.int .u32 1116352408, .int .u32 1899447441, .int .u32 3049323471, .int .u32 3921009573, .int .u32 961987163, .int .u32 1508970993, .int .u32 2453635748, .int .u32 2870763221, .int .u32 3624381080, .int .u32 310598401, .int .u32 607225278, .int .u32 1426881987, .int .u32 1925078388, .int .u32 2162078206, .int .u32 2614888103, .int .u32 3248222580, .int .u32 3835390401, .int .u32 4022224774, .int .u32 264347078, .int .u32 604807628, .int .u32 770255983, .int .u32 1249150122, .int .u32 1555081692, .int .u32 1996064986, .int .u32 2554220882, .int .u32 2821834349, .int .u32 2952996808, .int .u32 3210313671, .int .u32 3336571891, .int .u32 3584528711, .int .u32 113926993, .int .u32 338241895, .int .u32 666307205, .int .u32 773529912, .int .u32 1294757372, .int .u32 1396182291, .int .u32 1695183700, .int .u32 1986661051, .int .u32 2177026350, .int .u32 2456956037, .int .u32 2730485921, .int .u32 2820302411, .int .u32 3259730800, .int .u32 3345764771, .int .u32 3516065817, .int .u32 3600352804, .int .u32 4094571909, .int .u32 275423344, .int .u32 430227734, .int .u32 506948616, .int .u32 659060556, .int .u32 883997877, .int .u32 958139571, .int .u32 1322822218, .int .u32 1537002063, .int .u32 1747873779, .int .u32 1955562222, .int .u32 2024104815, .int .u32 2227730452, .int .u32 2361852424, .int .u32 2428436474, .int .u32 2756734187, .int .u32 3204031479, .int .u32 3329325298] 202 0 .no
def gl50 : List (Lb × Dx.Obj) := [(q1, roundsObj)]
def rgMax : Option (Lb × Int × Int × TypeId) := some (q2, -9223372036854775808, 9223372036854775807, 3)
def ids1 : List (FuncId × Ext) := (50, .tab 5 gl50 none tab50) :: ids0
def ids2 : List (FuncId × Ext) := (381, .tab 5 [] none tab381) :: (499, .tab 5 [] rgMax tab499) :: (230, .tab 5 [] rgMax tab230) :: ids1
noncomputable def all : T DFn := compAll Tryz.prog 11 630
noncomputable def fns0 : T DFn := without all [22, 147, 396, 510]
noncomputable def fns1 : T DFn := without all [50, 22, 147, 396, 510]
noncomputable def fns2 : T DFn := without all [381, 499, 230, 50, 22, 147, 396, 510]
noncomputable def orc0 : Orc := orcOf Tryz.prog ids0
noncomputable def orc1 : Orc := orcOf Tryz.prog ids1
noncomputable def orc2 : Orc := orcOf Tryz.prog ids2
end PK
