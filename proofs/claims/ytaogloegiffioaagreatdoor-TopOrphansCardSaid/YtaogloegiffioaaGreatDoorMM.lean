import Derived.Test.YtaogloegiffioaaGreatDoorMD
import Derived.Test.YtaogloegiffioaaGreatDoorMF
import Derived.Test.YtaogloegiffioaaGreatDoorMG
import Derived.Test.YtaogloegiffioaaGreatDoorMH
import Derived.Test.YtaogloegiffioaaGreatDoorMI
import Derived.Test.YtaogloegiffioaaGreatDoorMJ
import Derived.Test.YtaogloegiffioaaGreatDoorML
set_option linter.all false
namespace Go.Proofs.YtaogloegiffioaaGreatDoor
set_option maxRecDepth 100000
theorem mo : Tryz.prog.follows .mixedOrders = true := by kernel_rfl
theorem ofF {k f : Nat} {F : Fu} (h : All Tryz.prog vals (L.take k)) (t : denF Tryz.prog (tabK k) (vtabK k) f = F) (hk : fnOk Tryz.prog f = true) : CallOkV Tryz.prog f F := by
  have h1 : ∀ g, CallOk Tryz.prog g (tabK k g) := fun g => by unfold tabK; exact tab_ok h g
  have h2 : ∀ n g, CallOkV Tryz.prog g (vtabK k n g) := fun n g => by unfold vtabK; exact vtab_ok h n g
  exact t ▸ denF_ok mo h1 h2 hk
theorem ofR {k f : Nat} {F : Fu} (h : All Tryz.prog vals (L.take k)) (t : denR Tryz.prog (tabK k) (vtabK k) f = F) (hk : fnOk Tryz.prog f = true) : CallOkV Tryz.prog f F := by
  have h1 : ∀ g, CallOk Tryz.prog g (tabK k g) := fun g => by unfold tabK; exact tab_ok h g
  have h2 : ∀ n g, CallOkV Tryz.prog g (vtabK k n g) := fun n g => by unfold vtabK; exact vtab_ok h n g
  exact t ▸ denR_ok mo h1 h2 hk
theorem a0 : All Tryz.prog vals (L.take 0) := fun p hp => by cases hp
theorem a1 : All Tryz.prog vals (L.take 1) := a0.step (f := 358) (F := f358) (by kernel_rfl) (ofF a0 t0 k358)
theorem a2 : All Tryz.prog vals (L.take 2) := a1.step (f := 359) (F := f359) (by kernel_rfl) (ofF a1 t1 k359)
theorem a3 : All Tryz.prog vals (L.take 3) := a2.step (f := 345) (F := f345) (by kernel_rfl) (ofF a2 t2 k345)
theorem a4 : All Tryz.prog vals (L.take 4) := a3.step (f := 171) (F := f171) (by kernel_rfl) (ofF a3 t3 k171)
theorem a5 : All Tryz.prog vals (L.take 5) := a4.step (f := 346) (F := f346) (by kernel_rfl) (ofF a4 t4 k346)
theorem a6 : All Tryz.prog vals (L.take 6) := a5.step (f := 51) (F := f51) (by kernel_rfl) (ofF a5 t5 k51)
theorem a7 : All Tryz.prog vals (L.take 7) := a6.step (f := 56) (F := f56) (by kernel_rfl) (ofF a6 t6 k56)
theorem a8 : All Tryz.prog vals (L.take 8) := a7.step (f := 150) (F := f150) (by kernel_rfl) (ofF a7 t7 k150)
theorem a9 : All Tryz.prog vals (L.take 9) := a8.step (f := 234) (F := f234) (by kernel_rfl) (ofF a8 t8 k234)
theorem a10 : All Tryz.prog vals (L.take 10) := a9.step (f := 169) (F := f169) (by kernel_rfl) (ofF a9 t9 k169)
theorem a11 : All Tryz.prog vals (L.take 11) := a10.step (f := 102) (F := f102) (by kernel_rfl) (ofF a10 t10 k102)
theorem a12 : All Tryz.prog vals (L.take 12) := a11.step (f := 62) (F := f62) (by kernel_rfl) (ofF a11 t11 k62)
theorem a13 : All Tryz.prog vals (L.take 13) := a12.step (f := 100) (F := f100) (by kernel_rfl) (ofF a12 t12 k100)
theorem a14 : All Tryz.prog vals (L.take 14) := a13.step (f := 99) (F := f99) (by kernel_rfl) (ofF a13 t13 k99)
theorem a15 : All Tryz.prog vals (L.take 15) := a14.step (f := 101) (F := f101) (by kernel_rfl) (ofF a14 t14 k101)
theorem a16 : All Tryz.prog vals (L.take 16) := a15.step (f := 309) (F := f309) (by kernel_rfl) (ofF a15 t15 k309)
theorem a17 : All Tryz.prog vals (L.take 17) := a16.step (f := 308) (F := f308) (by kernel_rfl) (ofF a16 t16 k308)
theorem a18 : All Tryz.prog vals (L.take 18) := a17.step (f := 88) (F := f88) (by kernel_rfl) (ofF a17 t17 k88)
theorem a19 : All Tryz.prog vals (L.take 19) := a18.step (f := 267) (F := f267) (by kernel_rfl) (ofF a18 t18 k267)
theorem a20 : All Tryz.prog vals (L.take 20) := a19.step (f := 193) (F := f193) (by kernel_rfl) (ofF a19 t19 k193)
theorem a21 : All Tryz.prog vals (L.take 21) := a20.step (f := 93) (F := f93) (by kernel_rfl) (ofF a20 t20 k93)
theorem a22 : All Tryz.prog vals (L.take 22) := a21.step (f := 58) (F := f58) (by kernel_rfl) (ofF a21 t21 k58)
theorem a23 : All Tryz.prog vals (L.take 23) := a22.step (f := 96) (F := f96) (by kernel_rfl) (ofF a22 t22 k96)
theorem a24 : All Tryz.prog vals (L.take 24) := a23.step (f := 95) (F := f95) (by kernel_rfl) (ofF a23 t23 k95)
theorem a25 : All Tryz.prog vals (L.take 25) := a24.step (f := 97) (F := f97) (by kernel_rfl) (ofF a24 t24 k97)
theorem a26 : All Tryz.prog vals (L.take 26) := a25.step (f := 288) (F := f288) (by kernel_rfl) (ofF a25 t25 k288)
theorem a27 : All Tryz.prog vals (L.take 27) := a26.step (f := 84) (F := f84) (by kernel_rfl) (ofF a26 t26 k84)
theorem a28 : All Tryz.prog vals (L.take 28) := a27.step (f := 47) (F := f47) (by kernel_rfl) (ofF a27 t27 k47)
theorem a29 : All Tryz.prog vals (L.take 29) := a28.step (f := 222) (F := f222) (by kernel_rfl) (ofF a28 t28 k222)
theorem a30 : All Tryz.prog vals (L.take 30) := a29.step (f := 223) (F := f223) (by kernel_rfl) (ofF a29 t29 k223)
theorem a31 : All Tryz.prog vals (L.take 31) := a30.step (f := 282) (F := f282) (by kernel_rfl) (ofF a30 t30 k282)
theorem a32 : All Tryz.prog vals (L.take 32) := a31.step (f := 283) (F := f283) (by kernel_rfl) (ofF a31 t31 k283)
theorem a33 : All Tryz.prog vals (L.take 33) := a32.step (f := 225) (F := f225) (by kernel_rfl) (ofF a32 t32 k225)
theorem a34 : All Tryz.prog vals (L.take 34) := a33.step (f := 161) (F := f161) (by kernel_rfl) (ofF a33 t33 k161)
theorem a35 : All Tryz.prog vals (L.take 35) := a34.step (f := 149) (F := f149) (by kernel_rfl) (ofF a34 t34 k149)
theorem a36 : All Tryz.prog vals (L.take 36) := a35.step (f := 98) (F := f98) (by kernel_rfl) (ofF a35 t35 k98)
theorem a37 : All Tryz.prog vals (L.take 37) := a36.step (f := 60) (F := f60) (by kernel_rfl) (ofF a36 t36 k60)
theorem a38 : All Tryz.prog vals (L.take 38) := a37.step (f := 142) (F := f142) (by kernel_rfl) (ofF a37 t37 k142)
theorem a39 : All Tryz.prog vals (L.take 39) := a38.step (f := 135) (F := f135) (by kernel_rfl) (ofF a38 t38 k135)
theorem a40 : All Tryz.prog vals (L.take 40) := a39.step (f := 194) (F := f194) (by kernel_rfl) (ofF a39 t39 k194)
theorem a41 : All Tryz.prog vals (L.take 41) := a40.step (f := 195) (F := f195) (by kernel_rfl) (ofF a40 t40 k195)
theorem a42 : All Tryz.prog vals (L.take 42) := a41.step (f := 136) (F := f136) (by kernel_rfl) (ofF a41 t41 k136)
theorem a43 : All Tryz.prog vals (L.take 43) := a42.step (f := 186) (F := f186) (by kernel_rfl) (ofF a42 t42 k186)
theorem a44 : All Tryz.prog vals (L.take 44) := a43.step (f := 224) (F := f224) (by kernel_rfl) (ofF a43 t43 k224)
theorem a45 : All Tryz.prog vals (L.take 45) := a44.step (f := 159) (F := f159) (by kernel_rfl) (ofF a44 t44 k159)
theorem a46 : All Tryz.prog vals (L.take 46) := a45.step (f := 310) (F := f310) (by kernel_rfl) (ofF a45 t45 k310)
theorem a47 : All Tryz.prog vals (L.take 47) := a46.step (f := 303) (F := f303) (by kernel_rfl) (ofF a46 t46 k303)
theorem a48 : All Tryz.prog vals (L.take 48) := a47.step (f := 342) (F := f342) (by kernel_rfl) (ofF a47 t47 k342)
theorem a49 : All Tryz.prog vals (L.take 49) := a48.step (f := 300) (F := f300) (by kernel_rfl) (ofF a48 t48 k300)
theorem a50 : All Tryz.prog vals (L.take 50) := a49.step (f := 343) (F := f343) (by kernel_rfl) (ofF a49 t49 k343)
theorem a51 : All Tryz.prog vals (L.take 51) := a50.step (f := 344) (F := f344) (by kernel_rfl) (ofF a50 t50 k344)
theorem a52 : All Tryz.prog vals (L.take 52) := a51.step (f := 307) (F := f307) (by kernel_rfl) (ofF a51 t51 k307)
theorem a53 : All Tryz.prog vals (L.take 53) := a52.step (f := 306) (F := f306) (by kernel_rfl) (ofF a52 t52 k306)
theorem a54 : All Tryz.prog vals (L.take 54) := a53.step (f := 243) (F := f243) (by kernel_rfl) (ofF a53 t53 k243)
theorem a55 : All Tryz.prog vals (L.take 55) := a54.step (f := 286) (F := f286) (by kernel_rfl) (ofF a54 t54 k286)
theorem a56 : All Tryz.prog vals (L.take 56) := a55.stepP (f := 48) (F := f48) (by kernel_rfl) ⟨w48, fun h => absurd h (by decide)⟩
theorem a57 : All Tryz.prog vals (L.take 57) := a56.step (f := 220) (F := f220) (by kernel_rfl) (ofF a56 t56 k220)
theorem a58 : All Tryz.prog vals (L.take 58) := a57.step (f := 293) (F := f293) (by kernel_rfl) (ofF a57 t57 k293)
theorem a59 : All Tryz.prog vals (L.take 59) := a58.step (f := 361) (F := f361) (by kernel_rfl) (ofF a58 t58 k361)
theorem a60 : All Tryz.prog vals (L.take 60) := a59.step (f := 32) (F := f32) (by kernel_rfl) (ofF a59 t59 k32)
theorem a61 : All Tryz.prog vals (L.take 61) := a60.step (f := 365) (F := f365) (by kernel_rfl) (ofF a60 t60 k365)
theorem a62 : All Tryz.prog vals (L.take 62) := a61.step (f := 360) (F := f360) (by kernel_rfl) (ofF a61 t61 k360)
theorem a63 : All Tryz.prog vals (L.take 63) := a62.step (f := 347) (F := f347) (by kernel_rfl) (ofF a62 t62 k347)
theorem a64 : All Tryz.prog vals (L.take 64) := a63.step (f := 311) (F := f311) (by kernel_rfl) (ofF a63 t63 k311)
theorem a65 : All Tryz.prog vals (L.take 65) := a64.step (f := 39) (F := f39) (by kernel_rfl) (ofF a64 t64 k39)
theorem a66 : All Tryz.prog vals (L.take 66) := a65.step (f := 312) (F := f312) (by kernel_rfl) (ofF a65 t65 k312)
theorem a67 : All Tryz.prog vals (L.take 67) := a66.step (f := 247) (F := f247) (by kernel_rfl) (ofF a66 t66 k247)
theorem a68 : All Tryz.prog vals (L.take 68) := a67.stepP (f := 44) (F := f44) (by kernel_rfl) ⟨w44, fun h => absurd h (by decide)⟩
theorem a69 : All Tryz.prog vals (L.take 69) := a68.stepP (f := 77) (F := f77) (by kernel_rfl) ⟨w77, fun h => absurd h (by decide)⟩
theorem a70 : All Tryz.prog vals (L.take 70) := a69.step (f := 128) (F := f128) (by kernel_rfl) (ofF a69 t69 k128)
theorem a71 : All Tryz.prog vals (L.take 71) := a70.step (f := 178) (F := f178) (by kernel_rfl) (ofF a70 t70 k178)
theorem a72 : All Tryz.prog vals (L.take 72) := a71.stepP (f := 179) (F := f179) (by kernel_rfl) ⟨w179, fun h => absurd h (by decide)⟩
theorem a73 : All Tryz.prog vals (L.take 73) := a72.step (f := 250) (F := f250) (by kernel_rfl) (ofF a72 t72 k250)
theorem a74 : All Tryz.prog vals (L.take 74) := a73.stepP (f := 313) (F := f313) (by kernel_rfl) ⟨w313, fun h => absurd h (by decide)⟩
theorem a75 : All Tryz.prog vals (L.take 75) := a74.step (f := 251) (F := f251) (by kernel_rfl) (ofF a74 t74 k251)
theorem a76 : All Tryz.prog vals (L.take 76) := a75.stepP (f := 252) (F := f252) (by kernel_rfl) ⟨w252, fun h => absurd h (by decide)⟩
theorem a77 : All Tryz.prog vals (L.take 77) := a76.step (f := 180) (F := f180) (by kernel_rfl) (ofF a76 t76 k180)
theorem a78 : All Tryz.prog vals (L.take 78) := a77.step (f := 127) (F := f127) (by kernel_rfl) (ofF a77 t77 k127)
theorem a79 : All Tryz.prog vals (L.take 79) := a78.step (f := 315) (F := f315) (by kernel_rfl) (ofF a78 t78 k315)
theorem a80 : All Tryz.prog vals (L.take 80) := a79.step (f := 253) (F := f253) (by kernel_rfl) (ofF a79 t79 k253)
theorem a81 : All Tryz.prog vals (L.take 81) := a80.step (f := 181) (F := f181) (by kernel_rfl) (ofF a80 t80 k181)
theorem a82 : All Tryz.prog vals (L.take 82) := a81.step (f := 129) (F := f129) (by kernel_rfl) (ofF a81 t81 k129)
theorem a83 : All Tryz.prog vals (L.take 83) := a82.step (f := 78) (F := f78) (by kernel_rfl) (ofF a82 t82 k78)
theorem a84 : All Tryz.prog vals (L.take 84) := a83.step (f := 130) (F := f130) (by kernel_rfl) (ofF a83 t83 k130)
theorem a85 : All Tryz.prog vals (L.take 85) := a84.step (f := 79) (F := f79) (by kernel_rfl) (ofF a84 t84 k79)
theorem a86 : All Tryz.prog vals (L.take 86) := a85.step (f := 192) (F := f192) (by kernel_rfl) (ofF a85 t85 k192)
theorem a87 : All Tryz.prog vals (L.take 87) := a86.step (f := 266) (F := f266) (by kernel_rfl) (ofF a86 t86 k266)
theorem a88 : All Tryz.prog vals (L.take 88) := a87.step (f := 191) (F := f191) (by kernel_rfl) (ofF a87 t87 k191)
theorem a89 : All Tryz.prog vals (L.take 89) := a88.step (f := 134) (F := f134) (by kernel_rfl) (ofF a88 t88 k134)
theorem a90 : All Tryz.prog vals (L.take 90) := a89.step (f := 81) (F := f81) (by kernel_rfl) (ofF a89 t89 k81)
theorem a91 : All Tryz.prog vals (L.take 91) := a90.step (f := 316) (F := f316) (by kernel_rfl) (ofF a90 t90 k316)
theorem a92 : All Tryz.prog vals (L.take 92) := a91.step (f := 254) (F := f254) (by kernel_rfl) (ofF a91 t91 k254)
theorem a93 : All Tryz.prog vals (L.take 93) := a92.step (f := 182) (F := f182) (by kernel_rfl) (ofF a92 t92 k182)
theorem a94 : All Tryz.prog vals (L.take 94) := a93.step (f := 131) (F := f131) (by kernel_rfl) (ofF a93 t93 k131)
theorem a95 : All Tryz.prog vals (L.take 95) := a94.step (f := 106) (F := f106) (by kernel_rfl) (ofF a94 t94 k106)
theorem a96 : All Tryz.prog vals (L.take 96) := a95.step (f := 183) (F := f183) (by kernel_rfl) (ofF a95 t95 k183)
theorem a97 : All Tryz.prog vals (L.take 97) := a96.stepP (f := 255) (F := f255) (by kernel_rfl) ⟨w255, fun h => absurd h (by decide)⟩
theorem a98 : All Tryz.prog vals (L.take 98) := a97.step (f := 184) (F := f184) (by kernel_rfl) (ofF a97 t97 k184)
theorem a99 : All Tryz.prog vals (L.take 99) := a98.step (f := 256) (F := f256) (by kernel_rfl) (ofF a98 t98 k256)
theorem a100 : All Tryz.prog vals (L.take 100) := a99.step (f := 185) (F := f185) (by kernel_rfl) (ofF a99 t99 k185)
theorem a101 : All Tryz.prog vals (L.take 101) := a100.step (f := 258) (F := f258) (by kernel_rfl) (ofF a100 t100 k258)
theorem a102 : All Tryz.prog vals (L.take 102) := a101.step (f := 49) (F := f49) (by kernel_rfl) (ofF a101 t101 k49)
theorem a103 : All Tryz.prog vals (L.take 103) := a102.step (f := 317) (F := f317) (by kernel_rfl) (ofF a102 t102 k317)
theorem a104 : All Tryz.prog vals (L.take 104) := a103.step (f := 257) (F := f257) (by kernel_rfl) (ofF a103 t103 k257)
theorem a105 : All Tryz.prog vals (L.take 105) := a104.step (f := 260) (F := f260) (by kernel_rfl) (ofF a104 t104 k260)
theorem a106 : All Tryz.prog vals (L.take 106) := a105.stepP (f := 87) (F := f87) (by kernel_rfl) ⟨w87, fun h => absurd h (by decide)⟩
theorem a107 : All Tryz.prog vals (L.take 107) := a106.step (f := 362) (F := f362) (by kernel_rfl) (ofF a106 t106 k362)
theorem a108 : All Tryz.prog vals (L.take 108) := a107.step (f := 349) (F := f349) (by kernel_rfl) (ofF a107 t107 k349)
theorem a109 : All Tryz.prog vals (L.take 109) := a108.step (f := 320) (F := f320) (by kernel_rfl) (ofF a108 t108 k320)
theorem a110 : All Tryz.prog vals (L.take 110) := a109.step (f := 263) (F := f263) (by kernel_rfl) (ofF a109 t109 k263)
theorem a111 : All Tryz.prog vals (L.take 111) := a110.step (f := 318) (F := f318) (by kernel_rfl) (ofF a110 t110 k318)
theorem a112 : All Tryz.prog vals (L.take 112) := a111.step (f := 259) (F := f259) (by kernel_rfl) (ofF a111 t111 k259)
theorem a113 : All Tryz.prog vals (L.take 113) := a112.step (f := 265) (F := f265) (by kernel_rfl) (ofF a112 t112 k265)
theorem a114 : All Tryz.prog vals (L.take 114) := a113.step (f := 264) (F := f264) (by kernel_rfl) (ofF a113 t113 k264)
theorem a115 : All Tryz.prog vals (L.take 115) := a114.step (f := 190) (F := f190) (by kernel_rfl) (ofF a114 t114 k190)
theorem a116 : All Tryz.prog vals (L.take 116) := a115.step (f := 348) (F := f348) (by kernel_rfl) (ofF a115 t115 k348)
theorem a117 : All Tryz.prog vals (L.take 117) := a116.step (f := 319) (F := f319) (by kernel_rfl) (ofF a116 t116 k319)
theorem a118 : All Tryz.prog vals (L.take 118) := a117.step (f := 261) (F := f261) (by kernel_rfl) (ofF a117 t117 k261)
theorem a119 : All Tryz.prog vals (L.take 119) := a118.step (f := 187) (F := f187) (by kernel_rfl) (ofF a118 t118 k187)
theorem a120 : All Tryz.prog vals (L.take 120) := a119.step (f := 262) (F := f262) (by kernel_rfl) (ofF a119 t119 k262)
theorem a121 : All Tryz.prog vals (L.take 121) := a120.step (f := 188) (F := f188) (by kernel_rfl) (ofF a120 t120 k188)
theorem a122 : All Tryz.prog vals (L.take 122) := a121.step (f := 189) (F := f189) (by kernel_rfl) (ofF a121 t121 k189)
theorem a123 : All Tryz.prog vals (L.take 123) := a122.step (f := 133) (F := f133) (by kernel_rfl) (ofF a122 t122 k133)
theorem a124 : All Tryz.prog vals (L.take 124) := a123.step (f := 66) (F := f66) (by kernel_rfl) (ofF a123 t123 k66)
theorem a125 : All Tryz.prog vals (L.take 125) := a124.step (f := 132) (F := f132) (by kernel_rfl) (ofF a124 t124 k132)
theorem a126 : All Tryz.prog vals (L.take 126) := a125.step (f := 80) (F := f80) (by kernel_rfl) (ofF a125 t125 k80)
theorem a127 : All Tryz.prog vals (L.take 127) := a126.step (f := 45) (F := f45) (by kernel_rfl) (ofF a126 t126 k45)
theorem a128 : All Tryz.prog vals (L.take 128) := a127.step (f := 72) (F := f72) (by kernel_rfl) (ofF a127 t127 k72)
theorem a129 : All Tryz.prog vals (L.take 129) := a128.step (f := 73) (F := f73) (by kernel_rfl) (ofF a128 t128 k73)
theorem a130 : All Tryz.prog vals (L.take 130) := a129.step (f := 74) (F := f74) (by kernel_rfl) (ofF a129 t129 k74)
theorem a131 : All Tryz.prog vals (L.take 131) := a130.stepP (f := 123) (F := f123) (by kernel_rfl) ⟨w123, fun h => absurd h (by decide)⟩
theorem a132 : All Tryz.prog vals (L.take 132) := a131.step (f := 238) (F := f238) (by kernel_rfl) (ofF a131 t131 k238)
theorem a133 : All Tryz.prog vals (L.take 133) := a132.step (f := 304) (F := f304) (by kernel_rfl) (ofF a132 t132 k304)
theorem a134 : All Tryz.prog vals (L.take 134) := a133.step (f := 91) (F := f91) (by kernel_rfl) (ofF a133 t133 k91)
theorem a135 : All Tryz.prog vals (L.take 135) := a134.step (f := 144) (F := f144) (by kernel_rfl) (ofF a134 t134 k144)
theorem a136 : All Tryz.prog vals (L.take 136) := a135.step (f := 90) (F := f90) (by kernel_rfl) (ofF a135 t135 k90)
theorem a137 : All Tryz.prog vals (L.take 137) := a136.step (f := 207) (F := f207) (by kernel_rfl) (ofF a136 t136 k207)
theorem a138 : All Tryz.prog vals (L.take 138) := a137.step (f := 139) (F := f139) (by kernel_rfl) (ofF a137 t137 k139)
theorem a139 : All Tryz.prog vals (L.take 139) := a138.step (f := 209) (F := f209) (by kernel_rfl) (ofF a138 t138 k209)
theorem a140 : All Tryz.prog vals (L.take 140) := a139.step (f := 145) (F := f145) (by kernel_rfl) (ofR a139 t139 k145)
theorem a141 : All Tryz.prog vals (L.take 141) := a140.step (f := 92) (F := f92) (by kernel_rfl) (ofF a140 t140 k92)
theorem a142 : All Tryz.prog vals (L.take 142) := a141.step (f := 57) (F := f57) (by kernel_rfl) (ofF a141 t141 k57)
theorem a143 : All Tryz.prog vals (L.take 143) := a142.step (f := 208) (F := f208) (by kernel_rfl) (ofF a142 t142 k208)
theorem a144 : All Tryz.prog vals (L.take 144) := a143.step (f := 328) (F := f328) (by kernel_rfl) (ofF a143 t143 k328)
theorem a145 : All Tryz.prog vals (L.take 145) := a144.step (f := 352) (F := f352) (by kernel_rfl) (ofF a144 t144 k352)
theorem a146 : All Tryz.prog vals (L.take 146) := a145.step (f := 354) (F := f354) (by kernel_rfl) (ofF a145 t145 k354)
theorem a147 : All Tryz.prog vals (L.take 147) := a146.step (f := 353) (F := f353) (by kernel_rfl) (ofF a146 t146 k353)
theorem a148 : All Tryz.prog vals (L.take 148) := a147.step (f := 330) (F := f330) (by kernel_rfl) (ofF a147 t147 k330)
theorem a149 : All Tryz.prog vals (L.take 149) := a148.step (f := 329) (F := f329) (by kernel_rfl) (ofF a148 t148 k329)
theorem a150 : All Tryz.prog vals (L.take 150) := a149.step (f := 285) (F := f285) (by kernel_rfl) (ofF a149 t149 k285)
theorem a151 : All Tryz.prog vals (L.take 151) := a150.step (f := 219) (F := f219) (by kernel_rfl) (ofF a150 t150 k219)
theorem a152 : All Tryz.prog vals (L.take 152) := a151.step (f := 305) (F := f305) (by kernel_rfl) (ofF a151 t151 k305)
theorem a153 : All Tryz.prog vals (L.take 153) := a152.step (f := 241) (F := f241) (by kernel_rfl) (ofF a152 t152 k241)
theorem a154 : All Tryz.prog vals (L.take 154) := a153.step (f := 230) (F := f230) (by kernel_rfl) (ofF a153 t153 k230)
theorem a155 : All Tryz.prog vals (L.take 155) := a154.step (f := 231) (F := f231) (by kernel_rfl) (ofF a154 t154 k231)
theorem a156 : All Tryz.prog vals (L.take 156) := a155.step (f := 336) (F := f336) (by kernel_rfl) (ofF a155 t155 k336)
theorem a157 : All Tryz.prog vals (L.take 157) := a156.step (f := 295) (F := f295) (by kernel_rfl) (ofF a156 t156 k295)
theorem a158 : All Tryz.prog vals (L.take 158) := a157.step (f := 277) (F := f277) (by kernel_rfl) (ofF a157 t157 k277)
theorem a159 : All Tryz.prog vals (L.take 159) := a158.step (f := 296) (F := f296) (by kernel_rfl) (ofF a158 t158 k296)
theorem a160 : All Tryz.prog vals (L.take 160) := a159.step (f := 294) (F := f294) (by kernel_rfl) (ofF a159 t159 k294)
theorem a161 : All Tryz.prog vals (L.take 161) := a160.step (f := 232) (F := f232) (by kernel_rfl) (ofF a160 t160 k232)
theorem a162 : All Tryz.prog vals (L.take 162) := a161.step (f := 147) (F := f147) (by kernel_rfl) (ofF a161 t161 k147)
theorem a163 : All Tryz.prog vals (L.take 163) := a162.step (f := 356) (F := f356) (by kernel_rfl) (ofF a162 t162 k356)
theorem a164 : All Tryz.prog vals (L.take 164) := a163.step (f := 337) (F := f337) (by kernel_rfl) (ofF a163 t163 k337)
theorem a165 : All Tryz.prog vals (L.take 165) := a164.step (f := 297) (F := f297) (by kernel_rfl) (ofR a164 t164 k297)
theorem a166 : All Tryz.prog vals (L.take 166) := a165.step (f := 233) (F := f233) (by kernel_rfl) (ofF a165 t165 k233)
theorem a167 : All Tryz.prog vals (L.take 167) := a166.step (f := 167) (F := f167) (by kernel_rfl) (ofF a166 t166 k167)
theorem a168 : All Tryz.prog vals (L.take 168) := a167.step (f := 168) (F := f168) (by kernel_rfl) (ofF a167 t167 k168)
theorem a169 : All Tryz.prog vals (L.take 169) := a168.step (f := 245) (F := f245) (by kernel_rfl) (ofF a168 t168 k245)
theorem a170 : All Tryz.prog vals (L.take 170) := a169.stepP (f := 338) (F := f338) (by kernel_rfl) ⟨w338, fun h => absurd h (by decide)⟩
theorem a171 : All Tryz.prog vals (L.take 171) := a170.step (f := 339) (F := f339) (by kernel_rfl) (ofF a170 t170 k339)
theorem a172 : All Tryz.prog vals (L.take 172) := a171.step (f := 299) (F := f299) (by kernel_rfl) (ofF a171 t171 k299)
theorem a173 : All Tryz.prog vals (L.take 173) := a172.step (f := 301) (F := f301) (by kernel_rfl) (ofF a172 t172 k301)
theorem a174 : All Tryz.prog vals (L.take 174) := a173.step (f := 357) (F := f357) (by kernel_rfl) (ofF a173 t173 k357)
theorem a175 : All Tryz.prog vals (L.take 175) := a174.step (f := 340) (F := f340) (by kernel_rfl) (ofF a174 t174 k340)
theorem a176 : All Tryz.prog vals (L.take 176) := a175.step (f := 341) (F := f341) (by kernel_rfl) (ofF a175 t175 k341)
theorem a177 : All Tryz.prog vals (L.take 177) := a176.step (f := 302) (F := f302) (by kernel_rfl) (ofF a176 t176 k302)
theorem a178 : All Tryz.prog vals (L.take 178) := a177.step (f := 236) (F := f236) (by kernel_rfl) (ofF a177 t177 k236)
theorem a179 : All Tryz.prog vals (L.take 179) := a178.step (f := 239) (F := f239) (by kernel_rfl) (ofF a178 t178 k239)
theorem a180 : All Tryz.prog vals (L.take 180) := a179.step (f := 237) (F := f237) (by kernel_rfl) (ofF a179 t179 k237)
theorem a181 : All Tryz.prog vals (L.take 181) := a180.step (f := 240) (F := f240) (by kernel_rfl) (ofF a180 t180 k240)
theorem a182 : All Tryz.prog vals (L.take 182) := a181.step (f := 268) (F := f268) (by kernel_rfl) (ofF a181 t181 k268)
theorem a183 : All Tryz.prog vals (L.take 183) := a182.step (f := 196) (F := f196) (by kernel_rfl) (ofF a182 t182 k196)
theorem a184 : All Tryz.prog vals (L.take 184) := a183.step (f := 137) (F := f137) (by kernel_rfl) (ofF a183 t183 k137)
theorem a185 : All Tryz.prog vals (L.take 185) := a184.step (f := 82) (F := f82) (by kernel_rfl) (ofF a184 t184 k82)
theorem a186 : All Tryz.prog vals (L.take 186) := a185.step (f := 244) (F := f244) (by kernel_rfl) (ofF a185 t185 k244)
theorem a187 : All Tryz.prog vals (L.take 187) := a186.step (f := 174) (F := f174) (by kernel_rfl) (ofF a186 t186 k174)
theorem a188 : All Tryz.prog vals (L.take 188) := a187.step (f := 124) (F := f124) (by kernel_rfl) (ofF a187 t187 k124)
theorem a189 : All Tryz.prog vals (L.take 189) := a188.step (f := 141) (F := f141) (by kernel_rfl) (ofF a188 t188 k141)
theorem a190 : All Tryz.prog vals (L.take 190) := a189.step (f := 284) (F := f284) (by kernel_rfl) (ofF a189 t189 k284)
theorem a191 : All Tryz.prog vals (L.take 191) := a190.step (f := 218) (F := f218) (by kernel_rfl) (ofF a190 t190 k218)
theorem a192 : All Tryz.prog vals (L.take 192) := a191.step (f := 146) (F := f146) (by kernel_rfl) (ofF a191 t191 k146)
theorem a193 : All Tryz.prog vals (L.take 193) := a192.step (f := 148) (F := f148) (by kernel_rfl) (ofR a192 t192 k148)
theorem a194 : All Tryz.prog vals (L.take 194) := a193.step (f := 94) (F := f94) (by kernel_rfl) (ofF a193 t193 k94)
theorem a195 : All Tryz.prog vals (L.take 195) := a194.step (f := 59) (F := f59) (by kernel_rfl) (ofF a194 t194 k59)
theorem a196 : All Tryz.prog vals (L.take 196) := a195.step (f := 143) (F := f143) (by kernel_rfl) (ofF a195 t195 k143)
theorem a197 : All Tryz.prog vals (L.take 197) := a196.step (f := 89) (F := f89) (by kernel_rfl) (ofF a196 t196 k89)
theorem a198 : All Tryz.prog vals (L.take 198) := a197.step (f := 54) (F := f54) (by kernel_rfl) (ofF a197 t197 k54)
theorem a199 : All Tryz.prog vals (L.take 199) := a198.step (f := 27) (F := f27) (by kernel_rfl) (ofF a198 t198 k27)
theorem a200 : All Tryz.prog vals (L.take 200) := a199.step (f := 155) (F := f155) (by kernel_rfl) (ofF a199 t199 k155)
theorem a201 : All Tryz.prog vals (L.take 201) := a200.step (f := 110) (F := f110) (by kernel_rfl) (ofF a200 t200 k110)
theorem a202 : All Tryz.prog vals (L.take 202) := a201.step (f := 154) (F := f154) (by kernel_rfl) (ofF a201 t201 k154)
theorem a203 : All Tryz.prog vals (L.take 203) := a202.step (f := 107) (F := f107) (by kernel_rfl) (ofF a202 t202 k107)
theorem a204 : All Tryz.prog vals (L.take 204) := a203.step (f := 108) (F := f108) (by kernel_rfl) (ofF a203 t203 k108)
theorem a205 : All Tryz.prog vals (L.take 205) := a204.step (f := 109) (F := f109) (by kernel_rfl) (ofF a204 t204 k109)
theorem a206 : All Tryz.prog vals (L.take 206) := a205.step (f := 287) (F := f287) (by kernel_rfl) (ofF a205 t205 k287)
theorem a207 : All Tryz.prog vals (L.take 207) := a206.step (f := 221) (F := f221) (by kernel_rfl) (ofF a206 t206 k221)
theorem a208 : All Tryz.prog vals (L.take 208) := a207.step (f := 156) (F := f156) (by kernel_rfl) (ofF a207 t207 k156)
theorem a209 : All Tryz.prog vals (L.take 209) := a208.step (f := 158) (F := f158) (by kernel_rfl) (ofF a208 t208 k158)
theorem a210 : All Tryz.prog vals (L.take 210) := a209.step (f := 157) (F := f157) (by kernel_rfl) (ofF a209 t209 k157)
theorem a211 : All Tryz.prog vals (L.take 211) := a210.step (f := 160) (F := f160) (by kernel_rfl) (ofF a210 t210 k160)
theorem a212 : All Tryz.prog vals (L.take 212) := a211.step (f := 111) (F := f111) (by kernel_rfl) (ofF a211 t211 k111)
theorem a213 : All Tryz.prog vals (L.take 213) := a212.step (f := 228) (F := f228) (by kernel_rfl) (ofF a212 t212 k228)
theorem a214 : All Tryz.prog vals (L.take 214) := a213.step (f := 229) (F := f229) (by kernel_rfl) (ofF a213 t213 k229)
theorem a215 : All Tryz.prog vals (L.take 215) := a214.step (f := 163) (F := f163) (by kernel_rfl) (ofF a214 t214 k163)
theorem a216 : All Tryz.prog vals (L.take 216) := a215.step (f := 292) (F := f292) (by kernel_rfl) (ofF a215 t215 k292)
theorem a217 : All Tryz.prog vals (L.take 217) := a216.step (f := 335) (F := f335) (by kernel_rfl) (ofF a216 t216 k335)
theorem a218 : All Tryz.prog vals (L.take 218) := a217.step (f := 290) (F := f290) (by kernel_rfl) (ofF a217 t217 k290)
theorem a219 : All Tryz.prog vals (L.take 219) := a218.step (f := 334) (F := f334) (by kernel_rfl) (ofF a218 t218 k334)
theorem a220 : All Tryz.prog vals (L.take 220) := a219.step (f := 332) (F := f332) (by kernel_rfl) (ofF a219 t219 k332)
theorem a221 : All Tryz.prog vals (L.take 221) := a220.step (f := 363) (F := f363) (by kernel_rfl) (ofF a220 t220 k363)
theorem a222 : All Tryz.prog vals (L.take 222) := a221.step (f := 355) (F := f355) (by kernel_rfl) (ofF a221 t221 k355)
theorem a223 : All Tryz.prog vals (L.take 223) := a222.step (f := 333) (F := f333) (by kernel_rfl) (ofF a222 t222 k333)
theorem a224 : All Tryz.prog vals (L.take 224) := a223.step (f := 289) (F := f289) (by kernel_rfl) (ofF a223 t223 k289)
theorem a225 : All Tryz.prog vals (L.take 225) := a224.step (f := 291) (F := f291) (by kernel_rfl) (ofF a224 t224 k291)
theorem a226 : All Tryz.prog vals (L.take 226) := a225.step (f := 226) (F := f226) (by kernel_rfl) (ofF a225 t225 k226)
theorem a227 : All Tryz.prog vals (L.take 227) := a226.step (f := 227) (F := f227) (by kernel_rfl) (ofF a226 t226 k227)
theorem a228 : All Tryz.prog vals (L.take 228) := a227.step (f := 162) (F := f162) (by kernel_rfl) (ofF a227 t227 k162)
theorem a229 : All Tryz.prog vals (L.take 229) := a228.step (f := 165) (F := f165) (by kernel_rfl) (ofF a228 t228 k165)
theorem a230 : All Tryz.prog vals (L.take 230) := a229.step (f := 164) (F := f164) (by kernel_rfl) (ofF a229 t229 k164)
theorem a231 : All Tryz.prog vals (L.take 231) := a230.step (f := 166) (F := f166) (by kernel_rfl) (ofF a230 t230 k166)
theorem a232 : All Tryz.prog vals (L.take 232) := a231.step (f := 112) (F := f112) (by kernel_rfl) (ofF a231 t231 k112)
theorem a233 : All Tryz.prog vals (L.take 233) := a232.step (f := 30) (F := f30) (by kernel_rfl) (ofF a232 t232 k30)
theorem a234 : All Tryz.prog vals (L.take 234) := a233.step (f := 203) (F := f203) (by kernel_rfl) (ofF a233 t233 k203)
theorem a235 : All Tryz.prog vals (L.take 235) := a234.step (f := 197) (F := f197) (by kernel_rfl) (ofF a234 t234 k197)
theorem a236 : All Tryz.prog vals (L.take 236) := a235.step (f := 138) (F := f138) (by kernel_rfl) (ofR a235 t235 k138)
theorem a237 : All Tryz.prog vals (L.take 237) := a236.step (f := 83) (F := f83) (by kernel_rfl) (ofF a236 t236 k83)
theorem a238 : All Tryz.prog vals (L.take 238) := a237.step (f := 46) (F := f46) (by kernel_rfl) (ofF a237 t237 k46)
theorem a239 : All Tryz.prog vals (L.take 239) := a238.step (f := 29) (F := f29) (by kernel_rfl) (ofF a238 t238 k29)
theorem a240 : All Tryz.prog vals (L.take 240) := a239.step (f := 113) (F := f113) (by kernel_rfl) (ofF a239 t239 k113)
theorem a241 : All Tryz.prog vals (L.take 241) := a240.step (f := 125) (F := f125) (by kernel_rfl) (ofF a240 t240 k125)
theorem a242 : All Tryz.prog vals (L.take 242) := a241.step (f := 75) (F := f75) (by kernel_rfl) (ofF a241 t241 k75)
theorem a243 : All Tryz.prog vals (L.take 243) := a242.step (f := 175) (F := f175) (by kernel_rfl) (ofF a242 t242 k175)
theorem a244 : All Tryz.prog vals (L.take 244) := a243.step (f := 28) (F := f28) (by kernel_rfl) (ofF a243 t243 k28)
theorem a245 : All Tryz.prog vals (L.take 245) := a244.step (f := 50) (F := f50) (by kernel_rfl) (ofF a244 t244 k50)
theorem a246 : All Tryz.prog vals (L.take 246) := a245.step (f := 31) (F := f31) (by kernel_rfl) (ofF a245 t245 k31)
theorem a247 : All Tryz.prog vals (L.take 247) := a246.step (f := 13) (F := f13) (by kernel_rfl) (ofF a246 t246 k13)
theorem a248 : All Tryz.prog vals (L.take 248) := a247.step (f := 246) (F := f246) (by kernel_rfl) (ofF a247 t247 k246)
theorem a249 : All Tryz.prog vals (L.take 249) := a248.step (f := 176) (F := f176) (by kernel_rfl) (ofF a248 t248 k176)
theorem a250 : All Tryz.prog vals (L.take 250) := a249.step (f := 177) (F := f177) (by kernel_rfl) (ofF a249 t249 k177)
theorem a251 : All Tryz.prog vals (L.take 251) := a250.step (f := 126) (F := f126) (by kernel_rfl) (ofF a250 t250 k126)
theorem a252 : All Tryz.prog vals (L.take 252) := a251.step (f := 76) (F := f76) (by kernel_rfl) (ofF a251 t251 k76)
theorem a253 : All Tryz.prog vals (L.take 253) := a252.step (f := 43) (F := f43) (by kernel_rfl) (ofF a252 t252 k43)
theorem a254 : All Tryz.prog vals (L.take 254) := a253.step (f := 25) (F := f25) (by kernel_rfl) (ofF a253 t253 k25)
theorem a255 : All Tryz.prog vals (L.take 255) := a254.step (f := 8) (F := f8) (by kernel_rfl) (ofF a254 t254 k8)
theorem a256 : All Tryz.prog vals (L.take 256) := a255.step (f := 9) (F := f9) (by kernel_rfl) (ofF a255 t255 k9)
theorem a257 : All Tryz.prog vals (L.take 257) := a256.step (f := 26) (F := f26) (by kernel_rfl) (ofF a256 t256 k26)
theorem a258 : All Tryz.prog vals (L.take 258) := a257.step (f := 10) (F := f10) (by kernel_rfl) (ofF a257 t257 k10)
theorem a259 : All Tryz.prog vals (L.take 259) := a258.step (f := 19) (F := f19) (by kernel_rfl) (ofF a258 t258 k19)
theorem a260 : All Tryz.prog vals (L.take 260) := a259.step (f := 21) (F := f21) (by kernel_rfl) (ofF a259 t259 k21)
theorem a261 : All Tryz.prog vals (L.take 261) := a260.step (f := 67) (F := f67) (by kernel_rfl) (ofF a260 t260 k67)
theorem a262 : All Tryz.prog vals (L.take 262) := a261.step (f := 114) (F := f114) (by kernel_rfl) (ofF a261 t261 k114)
theorem a263 : All Tryz.prog vals (L.take 263) := a262.step (f := 68) (F := f68) (by kernel_rfl) (ofF a262 t262 k68)
theorem a264 : All Tryz.prog vals (L.take 264) := a263.stepP (f := 235) (F := f235) (by kernel_rfl) ⟨w235, fun h => absurd h (by decide)⟩
theorem a265 : All Tryz.prog vals (L.take 265) := a264.step (f := 170) (F := f170) (by kernel_rfl) (ofF a264 t264 k170)
theorem a266 : All Tryz.prog vals (L.take 266) := a265.step (f := 118) (F := f118) (by kernel_rfl) (ofF a265 t265 k118)
theorem a267 : All Tryz.prog vals (L.take 267) := a266.step (f := 115) (F := f115) (by kernel_rfl) (ofF a266 t266 k115)
theorem a268 : All Tryz.prog vals (L.take 268) := a267.step (f := 53) (F := f53) (by kernel_rfl) (ofF a267 t267 k53)
theorem a269 : All Tryz.prog vals (L.take 269) := a268.step (f := 35) (F := f35) (by kernel_rfl) (ofF a268 t268 k35)
theorem a270 : All Tryz.prog vals (L.take 270) := a269.step (f := 172) (F := f172) (by kernel_rfl) (ofF a269 t269 k172)
theorem a271 : All Tryz.prog vals (L.take 271) := a270.step (f := 119) (F := f119) (by kernel_rfl) (ofF a270 t270 k119)
theorem a272 : All Tryz.prog vals (L.take 272) := a271.step (f := 52) (F := f52) (by kernel_rfl) (ofF a271 t271 k52)
theorem a273 : All Tryz.prog vals (L.take 273) := a272.step (f := 34) (F := f34) (by kernel_rfl) (ofF a272 t272 k34)
theorem a274 : All Tryz.prog vals (L.take 274) := a273.step (f := 33) (F := f33) (by kernel_rfl) (ofF a273 t273 k33)
theorem a275 : All Tryz.prog vals (L.take 275) := a274.step (f := 120) (F := f120) (by kernel_rfl) (ofF a274 t274 k120)
theorem a276 : All Tryz.prog vals (L.take 276) := a275.step (f := 121) (F := f121) (by kernel_rfl) (ofF a275 t275 k121)
theorem a277 : All Tryz.prog vals (L.take 277) := a276.step (f := 69) (F := f69) (by kernel_rfl) (ofF a276 t276 k69)
theorem a278 : All Tryz.prog vals (L.take 278) := a277.step (f := 15) (F := f15) (by kernel_rfl) (ofF a277 t277 k15)
theorem a279 : All Tryz.prog vals (L.take 279) := a278.step (f := 37) (F := f37) (by kernel_rfl) (ofF a278 t278 k37)
theorem a280 : All Tryz.prog vals (L.take 280) := a279.step (f := 38) (F := f38) (by kernel_rfl) (ofF a279 t279 k38)
theorem a281 : All Tryz.prog vals (L.take 281) := a280.step (f := 17) (F := f17) (by kernel_rfl) (ofF a280 t280 k17)
theorem a282 : All Tryz.prog vals (L.take 282) := a281.step (f := 40) (F := f40) (by kernel_rfl) (ofF a281 t281 k40)
theorem a283 : All Tryz.prog vals (L.take 283) := a282.step (f := 63) (F := f63) (by kernel_rfl) (ofF a282 t282 k63)
theorem a284 : All Tryz.prog vals (L.take 284) := a283.step (f := 152) (F := f152) (by kernel_rfl) (ofF a283 t283 k152)
theorem a285 : All Tryz.prog vals (L.take 285) := a284.step (f := 153) (F := f153) (by kernel_rfl) (ofF a284 t284 k153)
theorem a286 : All Tryz.prog vals (L.take 286) := a285.step (f := 105) (F := f105) (by kernel_rfl) (ofF a285 t285 k105)
theorem a287 : All Tryz.prog vals (L.take 287) := a286.step (f := 65) (F := f65) (by kernel_rfl) (ofR a286 t286 k65)
theorem a288 : All Tryz.prog vals (L.take 288) := a287.step (f := 151) (F := f151) (by kernel_rfl) (ofF a287 t287 k151)
theorem a289 : All Tryz.prog vals (L.take 289) := a288.step (f := 103) (F := f103) (by kernel_rfl) (ofF a288 t288 k103)
theorem a290 : All Tryz.prog vals (L.take 290) := a289.step (f := 104) (F := f104) (by kernel_rfl) (ofR a289 t289 k104)
theorem a291 : All Tryz.prog vals (L.take 291) := a290.step (f := 64) (F := f64) (by kernel_rfl) (ofF a290 t290 k64)
theorem a292 : All Tryz.prog vals (L.take 292) := a291.step (f := 41) (F := f41) (by kernel_rfl) (ofF a291 t291 k41)
theorem a293 : All Tryz.prog vals (L.take 293) := a292.step (f := 18) (F := f18) (by kernel_rfl) (ofF a292 t292 k18)
theorem a294 : All Tryz.prog vals (L.take 294) := a293.step (f := 36) (F := f36) (by kernel_rfl) (ofF a293 t293 k36)
theorem a295 : All Tryz.prog vals (L.take 295) := a294.step (f := 16) (F := f16) (by kernel_rfl) (ofF a294 t294 k16)
theorem a296 : All Tryz.prog vals (L.take 296) := a295.step (f := 42) (F := f42) (by kernel_rfl) (ofF a295 t295 k42)
theorem a297 : All Tryz.prog vals (L.take 297) := a296.step (f := 22) (F := f22) (by kernel_rfl) (ofF a296 t296 k22)
theorem a298 : All Tryz.prog vals (L.take 298) := a297.step (f := 11) (F := f11) (by kernel_rfl) (ofF a297 t297 k11)
theorem a299 : All Tryz.prog vals (L.take 299) := a298.step (f := 12) (F := f12) (by kernel_rfl) (ofF a298 t298 k12)
theorem a300 : All Tryz.prog vals (L.take 300) := a299.step (f := 23) (F := f23) (by kernel_rfl) (ofF a299 t299 k23)
theorem a301 : All Tryz.prog vals (L.take 301) := a300.step (f := 7) (F := f7) (by kernel_rfl) (ofF a300 t300 k7)
end Go.Proofs.YtaogloegiffioaaGreatDoor
namespace Go.Proofs.YtaogloegiffioaaGreatDoor
noncomputable def f7p (φ : Fu) : Fu := fun' (mv g2) (m ff_ s2 (c0 f8 s9 (m g9 s3 (sq (m g3 s10 (ev (not_b g10) s11 (ci g11 (m ff_ s2 rt) nd))) (m g0 s12 (c2 φ g12 i_8 s13 (ev (add_i64 i_1 g13) s14 (m g14 s0 (c1 f10 i_600 s15 (m g15 s4 (m a53_ s5 (sq (m i_0 s6 (bk 0 (lo (sq (m g6 s16 (m g0 s17 (ev (lss_i64 g16 g17) s18 (ci g18 nd (xt 0))))) (sq (bk 1 (sq (m i_0 s7 (bk 2 (lo (sq (m g7 s21 (ev (lss_i64 g21 i_10) s22 (ci g22 nd (xt 2)))) (sq (bk 3 (m g4 s25 (m g7 s26 (m g6 s27 (c3 f11 g25 g26 g27 s28 nd))))) (m g7 s23 (ev (add_i64 g23 i_1) s24 (m g24 s7 nd)))))))) (sq (m g4 s29 (c1 f23 g29 s30 (ev (lss_i64 g30 i_0) s31 (m g31 s32 (mg g32 false g4 s33 (evg g32 false (nilc g33) s34 (evg g32 false (fad 1 g34) s35 (evg g32 false (ld1 g35) s36 (evg g32 false (not_b g36) s37 (ev (pick g32 tt_ g37) s38 (ci g38 (m ff_ s2 rt) nd))))))))))) (m g4 s39 (ev (nilc g39) s40 (ev (fad 0 g40) s41 (ev (ld1 g41) s42 (ev (nilc g42) s43 (ev (fad 1 g43) s44 (ev (ld1 g44) s45 (c1 f13 g45 s46 (nw (al 32 6 a17_) s8 (ex (stN 6 g8 g46) ns (sq (ev (fad 4 g8) s47 (ev (ld1 g47) s48 (ev (neq_i64 g48 i_0) s49 (m g49 s50 (evg g50 false (fad 3 g8) s51 (evg g50 false (ld1 g51) s52 (evg g50 false (neq_i64 g52 i_10) s53 (ev (pick g50 tt_ g53) s54 (m g54 s55 (mg g55 false g5 s56 (evg g55 false (geq_i64 g56 i_0) s57 (mg g55 false g57 s58 (evg g58 true (fad 5 g8) s59 (evg g58 true (ld1 g59) s60 (mg g58 true g5 s61 (evg g58 true (sub_i64 g61 i_2) s62 (evg g58 true (lss_i64 g60 g62) s63 (evg g55 false (pick g58 g63 ff_) s64 (ev (pick g55 tt_ g64) s65 (ci g65 (m ff_ s2 rt) nd)))))))))))))))))))) (m g5 s66 (ev (lss_i64 g66 i_0) s67 (ci g67 (ev (fad 5 g8) s68 (ev (ld1 g68) s69 (m g69 s5 nd))) nd))))))))))))))))) (m g6 s19 (ev (add_i64 g19 i_1) s20 (m g20 s6 nd)))))))) (m g4 s70 (ev (nilc g70) s71 (ev (fad 0 g71) s72 (ev (ld1 g72) s73 (c2 f16 g73 ns_ s74 (m g74 s2 rt))))))))))))))))))
noncomputable def tab7 (φ : Fu) : FuncId → Fu := fun g => Bool.rec (tabK 300 g) φ (Nat.beq g 9)
set_option maxRecDepth 100000 in
theorem t7p (φ : Fu) : denF Tryz.prog (tab7 φ) (vtabK 300) 7 = f7p φ := by kernel_rfl
set_option maxRecDepth 100000 in
theorem f7_ok {φ : Fu} (h : CallOk Tryz.prog 9 φ) : CallOkV Tryz.prog 7 (f7p φ) := by
  have h1 : ∀ g, CallOk Tryz.prog g (tab7 φ g) := fun g => by
    unfold tab7
    cases e : Nat.beq g 9
    · unfold tabK; exact tab_ok a300 g
    · rw [Nat.eq_of_beq_eq_true e]; exact h
  have h2 : ∀ n g, CallOkV Tryz.prog g (vtabK 300 n g) := fun n g => by unfold vtabK; exact vtab_ok a300 n g
  exact t7p φ ▸ denF_ok mo h1 h2 k7
end Go.Proofs.YtaogloegiffioaaGreatDoor
namespace Go.Proofs.YtaogloegiffioaaGreatDoor
open Go.RowKit
def smallK (n : Int) : Nat := (n.tmod 8).natAbs
theorem tmod8 (n : Int) : -8 < n.tmod 8 ∧ n.tmod 8 < 8 := by
  have h := Int.tmod_lt_of_pos n (show (0 : Int) < 8 by omega)
  have h2 := Int.tmod_lt_of_pos (-n) (show (0 : Int) < 8 by omega)
  rw [Int.neg_tmod] at h2
  omega
theorem smallK_lt (n : Int) : smallK n < 8 := by
  have := tmod8 n
  unfold smallK; omega
theorem small_c (n : Int) (w : World) : Calls Tryz.prog 9 #[.int .i64 n, .int .i64 8] w fun e w' => e = .returned (.int .i64 (smallK n : Int)) ∧ w = w' := by
  have hb := tmod8 n
  have HB := Lib.hid hb
  clear hb
  go_enter Tryz.func9, Tryz.ntmps9
  go_wp2_with (fail)
  · have hb := HB.out
    have e : wrap64 (-n.tmod 8) = (smallK n : Int) := by unfold wrap64 smallK; omega
    rw [e]
    go_ret
    exact ⟨rfl, rfl⟩
  · have hb := HB.out
    have e : n.tmod 8 = (smallK n : Int) := by unfold smallK; omega
    rw [e]
    go_ret
    exact ⟨rfl, rfl⟩
open Classical in
noncomputable def phi (n : Int) : Fu := fun T σ => if g0 T = .lit (.int .i64 n) ∧ g1 T = .i64 8 then .ok (.i64 (smallK n)) σ else .no
theorem phi_at {n : Int} {T : Tm} {σ : St} (h : g0 T = .lit (.int .i64 n)) (h2 : g1 T = .i64 8) : phi n T σ = .ok (.i64 (smallK n)) σ := by
  unfold phi; rw [if_pos ⟨h, h2⟩]
set_option maxRecDepth 20000 in
theorem phi_ok (n : Int) : CallOk Tryz.prog 9 (phi n) := prim_of (k := 2) (by kernel_rfl) fun ρ σ w T args v σ' hl hTA hs h => by
  obtain ⟨x, y, rfl⟩ := len2 hl
  unfold phi at h
  by_cases hc : g0 T = .lit (.int .i64 n) ∧ g1 T = .i64 8
  · rw [if_pos hc] at h
    injection h with h1 h2; subst h1 h2
    have hx := TA0 hTA
    have hy := TA1 hTA
    rw [hc.1] at hx
    rw [hc.2] at hy
    have hx : x = .int .i64 n := hx
    obtain ⟨hy, _⟩ := hy
    subst hx hy
    refine Calls.mono (small_c n w) fun e w' ⟨he, hw⟩ => ?_
    subst hw
    have := smallK_lt n
    exact ⟨_, he, ρ, ⟨rfl, by omega⟩, hs, Step.refl _ _ _⟩
  · rw [if_neg hc] at h; cases h
set_option maxRecDepth 100000 in
theorem top_ok (n : Int) : CallOkV Tryz.prog 7 (f7p (phi n)) := f7_ok (phi_ok n)
end Go.Proofs.YtaogloegiffioaaGreatDoor
namespace Go.Proofs.YtaogloegiffioaaGreatDoor
structure Fr (w0 : World) (ρ : Pl) (σ : St) (w : World) : Prop where
  os : w.os = w0.os
  tape : w.tape = w0.tape
  output : w.output = w0.output
  size : w0.heap.size ≤ w.heap.size
  fr : ∀ r, r < w0.heap.size → w.heap[r]? = w0.heap[r]?
  own : ∀ b L r, Live σ ρ b L → Own L r → w0.heap.size ≤ r
theorem Fr.step {w0 w w' : World} {ρ ρ' : Pl} {σ σ' : St} (h : Fr w0 ρ σ w) (s : Step σ ρ w σ' ρ' w') : Fr w0 ρ' σ' w' where
  os := s.os.trans h.os
  tape := s.tape.trans h.tape
  output := s.output.trans h.output
  size := Nat.le_trans h.size s.size
  fr := fun r hr => (s.fr r (Nat.lt_of_lt_of_le hr h.size) fun b L hl ho => absurd (h.own b L r hl ho) (by omega)).trans (h.fr r hr)
  own := fun b L r hl ho => by
    rcases s.own b L r hl ho with g | ⟨b0, L0, g1, g2⟩
    · exact Nat.le_trans h.size g
    · exact h.own b0 L0 r g1 g2
def Less (σ σ' : St) : Prop := σ'.nx = σ.nx ∧ ∀ b, σ'.h.at b = σ.h.at b ∨ σ'.h.at b = .none
theorem Fr.less {w0 w : World} {ρ : Pl} {σ σ' : St} (h : Fr w0 ρ σ w) (s : Less σ σ') : Fr w0 ρ σ' w :=
  ⟨h.os, h.tape, h.output, h.size, h.fr, fun b L r hl ho => h.own b L r ⟨hl.1, by
    rcases s.2 b with g | g
    · rw [← g]; exact hl.2
    · have := hl.2; rw [g] at this; exact this.elim⟩ ho⟩
def GPost (nt : Nat) (w0 : World) (a0 : Act) : RC → Exit → Act → World → Prop
  | .normal T σ, .normal, a, w => ∃ ρ, RT nt ρ T a ∧ RS ρ σ w ∧ Fr w0 ρ σ w ∧ a.defers = a0.defers
  | .exit i T σ, .exit j, a, w => i = j ∧ ∃ ρ, RT nt ρ T a ∧ RS ρ σ w ∧ Fr w0 ρ σ w ∧ a.defers = a0.defers
  | .ret T σ, .ret, a, w => ∃ ρ, RT nt ρ T a ∧ RS ρ σ w ∧ Fr w0 ρ σ w ∧ a.defers = a0.defers
  | _, _, _, _ => False
theorem RPost.g {nt : Nat} {w0 w w1 : World} {ρ : Pl} {σ : St} {a a1 : Act} {r : RC} {e : Exit} (hf : Fr w0 ρ σ w) (h : RPost nt ρ σ w a r e a1 w1) : GPost nt w0 a r e a1 w1 := by
  cases r <;> cases e <;> first
    | (obtain ⟨ρ1, g1, g2, g3, g4⟩ := h; exact ⟨ρ1, g1, g2, hf.step g3, g4⟩)
    | (obtain ⟨g0, ρ1, g1, g2, g3, g4⟩ := h; exact ⟨g0, ρ1, g1, g2, hf.step g3, g4⟩)
    | exact h.elim
theorem GPost.defers {nt : Nat} {w0 : World} {a0 a1 : Act} (hd : a1.defers = a0.defers) {r : RC} {e : Exit} {a : Act} {w : World} (g : GPost nt w0 a1 r e a w) : GPost nt w0 a0 r e a w := by
  cases r <;> cases e <;> first
    | (obtain ⟨ρ, g1, g2, g3, g4⟩ := g; exact ⟨ρ, g1, g2, g3, g4.trans hd⟩)
    | (obtain ⟨g0, ρ, g1, g2, g3, g4⟩ := g; exact ⟨g0, ρ, g1, g2, g3, g4.trans hd⟩)
    | exact g.elim
def CG (P : Program) (nt : Nat) (c : Code) (T : Tm) (σ : St) (r : RC) : Prop := ∀ (w0 : World) (ρ : Pl) (a : Act) (w : World), RT nt ρ T a → RS ρ σ w → Fr w0 ρ σ w → c.wp P (GPost nt w0 a r) a w
def LG (P : Program) (nt : Nat) (c : Code) (T : Tm) (σ : St) (r : RC) : Prop := ∀ (w0 : World) (ρ : Pl) (a : Act) (w : World), RT nt ρ T a → RS ρ σ w → Fr w0 ρ σ w → ∀ (b : Frame) (k : List Item) (cs : List Frame),
  ∃ e a' w', GPost nt w0 a r e a' w' ∧ Arrives P (lone (b.at a (.code c :: .inLoop c :: k)) cs w) b k cs e a' w'
section
variable {P : Program} {nt : Nat}
theorem CG.den {tab : FuncId → Fu} {vtab : Nat → Nat → Fu} (hm : P.follows .mixedOrders = true) (hF : ∀ f, CallOk P f (tab f)) (hV : ∀ n f, CallOkV P f (vtab n f)) {c : Code} (hc : codeOk P noTab noVtab nt c = true) {f : C} (hd : denC P tab vtab c = f) {T : Tm} {σ : St} {r : RC} (h : f T σ = r) (hr : r ≠ .no) : CG P nt c T σ r :=
  fun w0 ρ a w hT hs hf => by
    rw [code_same noTab tab noVtab vtab] at hc
    exact wp_mono (code_ok hm hF hV c hc ρ T σ a w r hT hs (by rw [hd]; exact h) hr) fun e a1 w1 hq => hq.g hf
theorem CG.seq {x y : Code} {T T1 : Tm} {σ σ1 : St} {r : RC} (hx : CG P nt x T σ (.normal T1 σ1)) (hy : CG P nt y T1 σ1 r) : CG P nt (.seq x y) T σ r := fun w0 ρ a w hT hs hf =>
  wp_seq (wp_mono (hx w0 ρ a w hT hs hf) fun e a1 w1 hq => by
    cases e <;> try exact hq.elim
    obtain ⟨ρ1, g1, g2, g3, g4⟩ := hq
    exact wp_mono (hy w0 ρ1 a1 w1 g1 g2 g3) fun e a2 w2 hq => hq.defers g4)
theorem CG.seq_exit {x y : Code} {T T1 : Tm} {σ σ1 : St} {i : Nat} (hx : CG P nt x T σ (.exit i T1 σ1)) : CG P nt (.seq x y) T σ (.exit i T1 σ1) := fun w0 ρ a w hT hs hf =>
  wp_seq (wp_mono (hx w0 ρ a w hT hs hf) fun e a1 w1 hq => by
    cases e <;> try exact hq.elim
    exact hq)
theorem CG.less {c : Code} {T T1 : Tm} {σ σ1 σ2 : St} (h : CG P nt c T σ (.normal T1 σ1)) (hl : Less σ1 σ2) : CG P nt c T σ (.normal T1 σ2) := fun w0 ρ a w hT hs hf =>
  wp_mono (h w0 ρ a w hT hs hf) fun e a1 w1 hq => by
    cases e <;> try exact hq.elim
    obtain ⟨ρ1, g1, g2, g3, g4⟩ := hq
    exact ⟨ρ1, g1, g2.forget hl.1 hl.2, g3.less hl, g4⟩
theorem CG.cond {c : Operand} {x y : Code} {T : Tm} {σ : St} {r : RC} {t : Bool} (hc : opndOk c = true) (e : opd c T = .b t) (h : CG P nt (Bool.rec y x t) T σ r) : CG P nt (.cond c x y) T σ r := fun w0 ρ a w hT hs hf => by
  have hv := opd_ok (ρ := ρ) (T := T) (a := a) c fun t ht => hT.2 t (by subst ht; simpa [opndOk] using hc)
  rw [e] at hv
  have hv : a.eval c = .bool t := hv
  cases t with
  | true => exact wp_cond_true hv (h w0 ρ a w hT hs hf)
  | false => exact wp_cond_false hv (h w0 ρ a w hT hs hf)
theorem CG.block_exit {c : Code} {id : Nat} {T T1 : Tm} {σ σ1 : St} (h : CG P nt c T σ (.exit id T1 σ1)) : CG P nt (.block id c) T σ (.normal T1 σ1) := fun w0 ρ a w hT hs hf =>
  wp_block (wp_mono (h w0 ρ a w hT hs hf) fun e a1 w1 hq => by
    cases e <;> try exact hq.elim
    obtain ⟨rfl, hq⟩ := hq
    show (if id = id then _ else _)
    rw [if_pos rfl]
    exact hq)
theorem LG.step {c : Code} {T T1 : Tm} {σ σ1 : St} {r : RC} (h : CG P nt c T σ (.normal T1 σ1)) (g : LG P nt c T1 σ1 r) : LG P nt c T σ r := fun w0 ρ a w hT hs hf b k cs => by
  obtain ⟨e, a1, w1, hq, harr⟩ := h w0 ρ a w hT hs hf b (.inLoop c :: k) cs
  cases e <;> try exact hq.elim
  obtain ⟨ρ1, g1, g2, g3, g4⟩ := hq
  obtain ⟨e2, a2, w2, hq2, harr2⟩ := g w0 ρ1 a1 w1 g1 g2 g3 b k cs
  exact ⟨e2, a2, w2, hq2.defers g4, .of_steps (Steps.trans harr (.one step_inLoop)) harr2⟩
theorem LG.exit {c : Code} {i : Nat} {T T1 : Tm} {σ σ1 : St} (h : CG P nt c T σ (.exit i T1 σ1)) : LG P nt c T σ (.exit i T1 σ1) := fun w0 ρ a w hT hs hf b k cs => by
  obtain ⟨e, a1, w1, hq, harr⟩ := h w0 ρ a w hT hs hf b (.inLoop c :: k) cs
  refine ⟨e, a1, w1, hq, ?_⟩
  cases e <;> try exact hq.elim
  exact .pass (x := .inLoop c) rfl (fun _ _ => .inl (by simp)) harr
theorem CG.loop {c : Code} {T : Tm} {σ : St} {r : RC} (h : LG P nt c T σ r) : CG P nt (.loop c) T σ r := fun w0 ρ a w hT hs hf b k cs => by
  obtain ⟨e, a1, w1, hq, harr⟩ := h w0 ρ a w hT hs hf b k cs
  exact ⟨e, a1, w1, hq, .of_steps (.one step_loop) harr⟩
end
end Go.Proofs.YtaogloegiffioaaGreatDoor
namespace Go.Proofs.YtaogloegiffioaaGreatDoor
noncomputable section
def h1 : H1 := .mk .none .none .none .none .none .none .none .none .none .none .none .none .none .none .none .none
def h2 : H2 := .mk h1 h1 h1 h1 h1 h1 h1 h1 h1 h1 h1 h1 h1 h1 h1 h1
def h3 : H3 := .mk h2 h2 h2 h2 h2 h2 h2 h2 h2 h2 h2 h2 h2 h2 h2 h2
def h4 : H4 := .mk h3 h3 h3 h3 h3 h3 h3 h3 h3 h3 h3 h3 h3 h3 h3 h3
def h5 : H5 := .mk h4 h4 h4 h4 h4 h4 h4 h4 h4 h4 h4 h4 h4 h4 h4 h4
inductive Kp where
  | z
  | m (bits : Nat)
  | n (c0 c1 c2 c3 c4 c5 c6 c7 c8 c9 ca cb cc cd ce cf : Kp)
def kbit (m i : Nat) (b : Blk) : Blk := Bool.rec .none b (Nat.beq (Nat.mod (Nat.shiftRight m i) 2) 1)
def keep1 (k : Kp) (h : H1) : H1 := Kp.casesOn (motive := fun _ => H1) k h1 (fun m => H1.rec (motive := fun _ => H1) (fun a0 a1 a2 a3 a4 a5 a6 a7 a8 a9 aa ab ac ad ae af => .mk (kbit m 0 a0) (kbit m 1 a1) (kbit m 2 a2) (kbit m 3 a3) (kbit m 4 a4) (kbit m 5 a5) (kbit m 6 a6) (kbit m 7 a7) (kbit m 8 a8) (kbit m 9 a9) (kbit m 10 aa) (kbit m 11 ab) (kbit m 12 ac) (kbit m 13 ad) (kbit m 14 ae) (kbit m 15 af)) h) (fun _ _ _ _ _ _ _ _ _ _ _ _ _ _ _ _ => h1)
def keep2 (k : Kp) (h : H2) : H2 := Kp.casesOn (motive := fun _ => H2) k h2 (fun _ => h2) (fun c0 c1 c2 c3 c4 c5 c6 c7 c8 c9 ca cb cc cd ce cf => H2.rec (motive := fun _ => H2) (fun a0 a1 a2 a3 a4 a5 a6 a7 a8 a9 aa ab ac ad ae af => .mk (keep1 c0 a0) (keep1 c1 a1) (keep1 c2 a2) (keep1 c3 a3) (keep1 c4 a4) (keep1 c5 a5) (keep1 c6 a6) (keep1 c7 a7) (keep1 c8 a8) (keep1 c9 a9) (keep1 ca aa) (keep1 cb ab) (keep1 cc ac) (keep1 cd ad) (keep1 ce ae) (keep1 cf af)) h)
def keep3 (k : Kp) (h : H3) : H3 := Kp.casesOn (motive := fun _ => H3) k h3 (fun _ => h3) (fun c0 c1 c2 c3 c4 c5 c6 c7 c8 c9 ca cb cc cd ce cf => H3.rec (motive := fun _ => H3) (fun a0 a1 a2 a3 a4 a5 a6 a7 a8 a9 aa ab ac ad ae af => .mk (keep2 c0 a0) (keep2 c1 a1) (keep2 c2 a2) (keep2 c3 a3) (keep2 c4 a4) (keep2 c5 a5) (keep2 c6 a6) (keep2 c7 a7) (keep2 c8 a8) (keep2 c9 a9) (keep2 ca aa) (keep2 cb ab) (keep2 cc ac) (keep2 cd ad) (keep2 ce ae) (keep2 cf af)) h)
def keep4 (k : Kp) (h : H4) : H4 := Kp.casesOn (motive := fun _ => H4) k h4 (fun _ => h4) (fun c0 c1 c2 c3 c4 c5 c6 c7 c8 c9 ca cb cc cd ce cf => H4.rec (motive := fun _ => H4) (fun a0 a1 a2 a3 a4 a5 a6 a7 a8 a9 aa ab ac ad ae af => .mk (keep3 c0 a0) (keep3 c1 a1) (keep3 c2 a2) (keep3 c3 a3) (keep3 c4 a4) (keep3 c5 a5) (keep3 c6 a6) (keep3 c7 a7) (keep3 c8 a8) (keep3 c9 a9) (keep3 ca aa) (keep3 cb ab) (keep3 cc ac) (keep3 cd ad) (keep3 ce ae) (keep3 cf af)) h)
def keep5 (k : Kp) (h : H5) : H5 := Kp.casesOn (motive := fun _ => H5) k h5 (fun _ => h5) (fun c0 c1 c2 c3 c4 c5 c6 c7 c8 c9 ca cb cc cd ce cf => H5.rec (motive := fun _ => H5) (fun a0 a1 a2 a3 a4 a5 a6 a7 a8 a9 aa ab ac ad ae af => .mk (keep4 c0 a0) (keep4 c1 a1) (keep4 c2 a2) (keep4 c3 a3) (keep4 c4 a4) (keep4 c5 a5) (keep4 c6 a6) (keep4 c7 a7) (keep4 c8 a8) (keep4 c9 a9) (keep4 ca aa) (keep4 cb ab) (keep4 cc ac) (keep4 cd ad) (keep4 ce ae) (keep4 cf af)) h)
def keepS (k : Kp) (σ : St) : St := ⟨keep5 k σ.h, σ.nx⟩
def keepRC (k : Kp) (r : RC) : RC := RC.rec (motive := fun _ => RC) .no (fun T σ => .normal T (keepS k σ)) (fun i T σ => .exit i T (keepS k σ)) (fun T σ => .ret T (keepS k σ)) r
def keepRA (k : Kp) (r : RA) : RA := RA.rec (motive := fun _ => RA) .no (fun v σ => .ok v (keepS k σ)) r
end
theorem h1_get (d : D16) : h1.get d = .none := by cases d <;> rfl
theorem h2_get (d : D16) : h2.get d = h1 := by cases d <;> rfl
theorem h3_get (d : D16) : h3.get d = h2 := by cases d <;> rfl
theorem h4_get (d : D16) : h4.get d = h3 := by cases d <;> rfl
theorem h5_get (d : D16) : h5.get d = h4 := by cases d <;> rfl
theorem kbit_or (m i : Nat) (b : Blk) : kbit m i b = b ∨ kbit m i b = .none := by
  unfold kbit
  cases Nat.beq (Nat.mod (Nat.shiftRight m i) 2) 1
  · exact .inr rfl
  · exact .inl rfl
theorem keep1_get (k : Kp) (h : H1) (d : D16) : (keep1 k h).get d = h.get d ∨ (keep1 k h).get d = .none := by
  cases k with
  | z => exact .inr (h1_get d)
  | n => exact .inr (h1_get d)
  | m b => cases d <;> exact kbit_or _ _ _
theorem keep2_get (k : Kp) (h : H2) (d : D16) : (∃ k', (keep2 k h).get d = keep1 k' (h.get d)) ∨ (keep2 k h).get d = h1 := by
  cases k with
  | z => exact .inr (h2_get d)
  | m => exact .inr (h2_get d)
  | n => cases d <;> exact .inl ⟨_, rfl⟩
theorem keep3_get (k : Kp) (h : H3) (d : D16) : (∃ k', (keep3 k h).get d = keep2 k' (h.get d)) ∨ (keep3 k h).get d = h2 := by
  cases k with
  | z => exact .inr (h3_get d)
  | m => exact .inr (h3_get d)
  | n => cases d <;> exact .inl ⟨_, rfl⟩
theorem keep4_get (k : Kp) (h : H4) (d : D16) : (∃ k', (keep4 k h).get d = keep3 k' (h.get d)) ∨ (keep4 k h).get d = h3 := by
  cases k with
  | z => exact .inr (h4_get d)
  | m => exact .inr (h4_get d)
  | n => cases d <;> exact .inl ⟨_, rfl⟩
theorem keep5_get (k : Kp) (h : H5) (d : D16) : (∃ k', (keep5 k h).get d = keep4 k' (h.get d)) ∨ (keep5 k h).get d = h4 := by
  cases k with
  | z => exact .inr (h5_get d)
  | m => exact .inr (h5_get d)
  | n => cases d <;> exact .inl ⟨_, rfl⟩
theorem keep_at (k : Kp) (h : H5) (b : Bid) : (keep5 k h).at b = h.at b ∨ (keep5 k h).at b = .none := by
  obtain ⟨z, a, b, c, d⟩ := b
  show (((((keep5 k h).get z).get a).get b).get c).get d = ((((h.get z).get a).get b).get c).get d ∨ _ = _
  rcases keep5_get k h z with ⟨k4, e4⟩ | e4
  · rcases keep4_get k4 (h.get z) a with ⟨k3, e3⟩ | e3
    · rcases keep3_get k3 ((h.get z).get a) b with ⟨k2, e2⟩ | e2
      · rcases keep2_get k2 (((h.get z).get a).get b) c with ⟨k1, e1⟩ | e1
        · rcases keep1_get k1 ((((h.get z).get a).get b).get c) d with e0 | e0
          · exact .inl (by rw [e4, e3, e2, e1, e0])
          · exact .inr (by show (((((keep5 k h).get z).get a).get b).get c).get d = _; rw [e4, e3, e2, e1, e0])
        · exact .inr (by show (((((keep5 k h).get z).get a).get b).get c).get d = _; rw [e4, e3, e2, e1, h1_get])
      · exact .inr (by show (((((keep5 k h).get z).get a).get b).get c).get d = _; rw [e4, e3, e2, h2_get, h1_get])
    · exact .inr (by show (((((keep5 k h).get z).get a).get b).get c).get d = _; rw [e4, e3, h3_get, h2_get, h1_get])
  · exact .inr (by show (((((keep5 k h).get z).get a).get b).get c).get d = _; rw [e4, h4_get, h3_get, h2_get, h1_get])
theorem h5_at (b : Bid) : h5.at b = .none := by
  obtain ⟨z, a, b, c, d⟩ := b
  show ((((h5.get z).get a).get b).get c).get d = _
  rw [h5_get, h4_get, h3_get, h2_get, h1_get]
theorem keepS_less (k : Kp) (σ : St) : Less σ (keepS k σ) := ⟨rfl, fun b => keep_at k σ.h b⟩
theorem keepRC_normal {k : Kp} {r : RC} {T : Tm} {σ : St} (h : keepRC k r = .normal T σ) : ∃ σ', r = .normal T σ' ∧ Less σ' σ := by
  cases r with
  | normal T' σ' => injection h with h1 h2; subst h1 h2; exact ⟨σ', rfl, keepS_less k σ'⟩
  | _ => cases h
theorem keepRA_ok {k : Kp} {r : RA} {v : AV} {σ : St} (h : keepRA k r = .ok v σ) : ∃ σ', r = .ok v σ' ∧ Less σ' σ := by
  cases r with
  | ok v' σ' => injection h with h1 h2; subst h1 h2; exact ⟨σ', rfl, keepS_less k σ'⟩
  | _ => cases h
end Go.Proofs.YtaogloegiffioaaGreatDoor
namespace Go.Proofs.YtaogloegiffioaaGreatDoor
noncomputable section
def qA : C := (m g6 s16 (m g0 s17 (ev (lss_i64 g16 g17) s18 (ci g18 nd (xt 0)))))
def qB : C := (sq (bk 1 (sq (m i_0 s7 (bk 2 (lo (sq (m g7 s21 (ev (lss_i64 g21 i_10) s22 (ci g22 nd (xt 2)))) (sq (bk 3 (m g4 s25 (m g7 s26 (m g6 s27 (c3 f11 g25 g26 g27 s28 nd))))) (m g7 s23 (ev (add_i64 g23 i_1) s24 (m g24 s7 nd)))))))) (sq (m g4 s29 (c1 f23 g29 s30 (ev (lss_i64 g30 i_0) s31 (m g31 s32 (mg g32 false g4 s33 (evg g32 false (nilc g33) s34 (evg g32 false (fad 1 g34) s35 (evg g32 false (ld1 g35) s36 (evg g32 false (not_b g36) s37 (ev (pick g32 tt_ g37) s38 (ci g38 (m ff_ s2 rt) nd))))))))))) (m g4 s39 (ev (nilc g39) s40 (ev (fad 0 g40) s41 (ev (ld1 g41) s42 (ev (nilc g42) s43 (ev (fad 1 g43) s44 (ev (ld1 g44) s45 (c1 f13 g45 s46 (nw (al 32 6 a17_) s8 (ex (stN 6 g8 g46) ns (sq (ev (fad 4 g8) s47 (ev (ld1 g47) s48 (ev (neq_i64 g48 i_0) s49 (m g49 s50 (evg g50 false (fad 3 g8) s51 (evg g50 false (ld1 g51) s52 (evg g50 false (neq_i64 g52 i_10) s53 (ev (pick g50 tt_ g53) s54 (m g54 s55 (mg g55 false g5 s56 (evg g55 false (geq_i64 g56 i_0) s57 (mg g55 false g57 s58 (evg g58 true (fad 5 g8) s59 (evg g58 true (ld1 g59) s60 (mg g58 true g5 s61 (evg g58 true (sub_i64 g61 i_2) s62 (evg g58 true (lss_i64 g60 g62) s63 (evg g55 false (pick g58 g63 ff_) s64 (ev (pick g55 tt_ g64) s65 (ci g65 (m ff_ s2 rt) nd)))))))))))))))))))) (m g5 s66 (ev (lss_i64 g66 i_0) s67 (ci g67 (ev (fad 5 g8) s68 (ev (ld1 g68) s69 (m g69 s5 nd))) nd))))))))))))))))) (m g6 s19 (ev (add_i64 g19 i_1) s20 (m g20 s6 nd))))
def qZ : C := (m g4 s70 (ev (nilc g70) s71 (ev (fad 0 g71) s72 (ev (ld1 g72) s73 (c2 f16 g73 ns_ s74 (m g74 s2 rt))))))
def TAk (T : Tm) (r : Nat) (b : Bool) : Tm := s18 (s17 (s16 T (.i64 r)) undefA) (.b b)
def isT (r : RC) : Bool := RC.rec (motive := fun _ => Bool) false (fun _ _ => false) (fun _ _ _ => false) (fun T _ => onB (g2 T) (fun b => b) false) r
end
end Go.Proofs.YtaogloegiffioaaGreatDoor
namespace Go.Proofs.YtaogloegiffioaaGreatDoor
def mapT (w : Tm → Tm) (r : RC) : RC := match r with
  | .no => .no
  | .normal T σ => .normal (w T) σ
  | .exit i T σ => .exit i (w T) σ
  | .ret T σ => .ret (w T) σ
def Ind (w : Tm → Tm) (c : C) : Prop := ∀ T σ, c (w T) σ = mapT w (c T σ)
def Com (w : Tm → Tm) (s : Tm → AV → Tm) : Prop := ∀ T v, s (w T) v = w (s T v)
section
variable {w : Tm → Tm}
theorem Ind.nd : Ind w nd := fun _ _ => rfl
theorem Ind.rt : Ind w rt := fun _ _ => rfl
theorem Ind.xt (i : Nat) : Ind w (xt i) := fun _ _ => rfl
theorem Ind.ev {e : E} {s : Tm → AV → Tm} {k : C} (he : ∀ T σ, e (w T) σ = e T σ) (hs : Com w s) (hk : Ind w k) : Ind w (ev e s k) := fun T σ => by
  show OA.rec (motive := fun _ => RC) .no (fun v => k (s (w T) v) σ) (e (w T) σ) = mapT w (OA.rec (motive := fun _ => RC) .no (fun v => k (s T v) σ) (e T σ))
  rw [he T σ]
  cases e T σ with
  | no => rfl
  | ok v => show k (s (w T) v) σ = mapT w (k (s T v) σ); rw [hs T v]; exact hk _ _
theorem Ind.ex {e : R} {s : Tm → AV → Tm} {k : C} (he : ∀ T σ, e (w T) σ = e T σ) (hs : Com w s) (hk : Ind w k) : Ind w (ex e s k) := fun T σ => by
  show RA.rec (motive := fun _ => RC) .no (fun v σ => k (s (w T) v) σ) (e (w T) σ) = mapT w (RA.rec (motive := fun _ => RC) .no (fun v σ => k (s T v) σ) (e T σ))
  rw [he T σ]
  cases e T σ with
  | no => rfl
  | ok v σ => show k (s (w T) v) σ = mapT w (k (s T v) σ); rw [hs T v]; exact hk _ _
theorem Ind.nw {e : N} {s : Tm → AV → Tm} {k : C} (he : ∀ T, e (w T) = e T) (hs : Com w s) (hk : Ind w k) : Ind w (nw e s k) := fun T σ => by
  show NB.rec (motive := fun _ => RC) .no (fun b f => Bool.rec .no (k (s (w T) (f σ.nx)) (σ.new b)) (notLast σ.nx)) (e (w T)) = mapT w (NB.rec (motive := fun _ => RC) .no (fun b f => Bool.rec .no (k (s T (f σ.nx)) (σ.new b)) (notLast σ.nx)) (e T))
  rw [he T]
  cases e T with
  | no => rfl
  | ok b f =>
    show Bool.rec .no (k (s (w T) (f σ.nx)) (σ.new b)) (notLast σ.nx) = mapT w (Bool.rec .no (k (s T (f σ.nx)) (σ.new b)) (notLast σ.nx))
    rw [hs T]
    cases notLast σ.nx with
    | false => rfl
    | true => exact hk _ _
theorem mapT_noB (x : AV) (r : RC) : mapT w (noB x r) = noB x (mapT w r) := by
  cases x <;> first | rfl | (rename_i v; show mapT w (Bool.rec r .no (isBoolV v)) = Bool.rec (mapT w r) .no (isBoolV v); cases isBoolV v <;> rfl)
theorem mapT_onB (x : AV) (f : Bool → RC) (r : RC) : mapT w (onB x f r) = onB x (fun b => mapT w (f b)) (mapT w r) := by cases x <;> rfl
theorem Ind.evg {g : G} {t : Bool} {e : E} {s : Tm → AV → Tm} {k : C} (hg : ∀ T, g (w T) = g T) (he : ∀ T σ, e (w T) σ = e T σ) (hs : Com w s) (hk : Ind w k) : Ind w (evg g t e s k) := fun T σ => by
  show onB (g (w T)) (fun t' => Bool.rec (k (s (w T) undefA) σ) (OA.rec (motive := fun _ => RC) .no (fun v => k (s (w T) v) σ) (e (w T) σ)) (eqBB t' t)) (noB (g (w T)) (k (s (w T) undefA) σ)) =
    mapT w (onB (g T) (fun t' => Bool.rec (k (s T undefA) σ) (OA.rec (motive := fun _ => RC) .no (fun v => k (s T v) σ) (e T σ)) (eqBB t' t)) (noB (g T) (k (s T undefA) σ)))
  rw [hg T, he T σ, mapT_onB, mapT_noB, hs T, hk (s T undefA) σ]
  congr 1
  funext b
  cases eqBB b t with
  | false => rfl
  | true =>
    cases e T σ with
    | no => rfl
    | ok v => show k (s (w T) v) σ = mapT w (k (s T v) σ); rw [hs T v]; exact hk _ _
theorem Ind.m {x : G} {s : Tm → AV → Tm} {k : C} (hx : ∀ T, x (w T) = x T) (hs : Com w s) (hk : Ind w k) : Ind w (m x s k) := fun T σ => by
  show k (s (w T) (x (w T))) σ = mapT w (k (s T (x T)) σ)
  rw [hx T, hs T]; exact hk _ _
theorem Ind.mg {g x : G} {t : Bool} {s : Tm → AV → Tm} {k : C} (hg : ∀ T, g (w T) = g T) (hx : ∀ T, x (w T) = x T) (hs : Com w s) (hk : Ind w k) : Ind w (mg g t x s k) :=
  Ind.evg hg (fun T σ => by show OA.ok (x (w T)) = OA.ok (x T); rw [hx]) hs hk
theorem Ind.c1 {f : Fu} {x : G} {s : Tm → AV → Tm} {k : C} (hx : ∀ T, x (w T) = x T) (hs : Com w s) (hk : Ind w k) : Ind w (c1 f x s k) :=
  Ind.ex (fun T σ => by show f (e1 (x (w T))) σ = f (e1 (x T)) σ; rw [hx]) hs hk
theorem Ind.c2 {f : Fu} {x y : G} {s : Tm → AV → Tm} {k : C} (hx : ∀ T, x (w T) = x T) (hy : ∀ T, y (w T) = y T) (hs : Com w s) (hk : Ind w k) : Ind w (c2 f x y s k) :=
  Ind.ex (fun T σ => by show f (e2 (x (w T)) (y (w T))) σ = f (e2 (x T) (y T)) σ; rw [hx, hy]) hs hk
theorem Ind.c3 {f : Fu} {x y z : G} {s : Tm → AV → Tm} {k : C} (hx : ∀ T, x (w T) = x T) (hy : ∀ T, y (w T) = y T) (hz : ∀ T, z (w T) = z T) (hs : Com w s) (hk : Ind w k) : Ind w (c3 f x y z s k) :=
  Ind.ex (fun T σ => by show f (e3 (x (w T)) (y (w T)) (z (w T))) σ = f (e3 (x T) (y T) (z T)) σ; rw [hx, hy, hz]) hs hk
theorem Ind.sq {a b : C} (ha : Ind w a) (hb : Ind w b) : Ind w (sq a b) := fun T σ => by
  show RC.rec (motive := fun _ => RC) .no (fun T σ => b T σ) .exit .ret (a (w T) σ) = mapT w (RC.rec (motive := fun _ => RC) .no (fun T σ => b T σ) .exit .ret (a T σ))
  rw [ha T σ]
  cases a T σ <;> first | rfl | exact hb _ _
theorem Ind.ci {g : G} {a b : C} (hg : ∀ T, g (w T) = g T) (ha : Ind w a) (hb : Ind w b) : Ind w (ci g a b) := fun T σ => by
  show onB (g (w T)) (fun t => Bool.rec (b (w T) σ) (a (w T) σ) t) .no = mapT w (onB (g T) (fun t => Bool.rec (b T σ) (a T σ) t) .no)
  rw [hg T, mapT_onB, ha T σ, hb T σ]
  congr 1
  funext t
  cases t <;> rfl
theorem Ind.bk {id : Nat} {a : C} (ha : Ind w a) : Ind w (bk id a) := fun T σ => by
  show RC.rec (motive := fun _ => RC) .no .normal (fun i T σ => Bool.rec (.exit i T σ) (.normal T σ) (Nat.beq i id)) .ret (a (w T) σ) = mapT w (RC.rec (motive := fun _ => RC) .no .normal (fun i T σ => Bool.rec (.exit i T σ) (.normal T σ) (Nat.beq i id)) .ret (a T σ))
  rw [ha T σ]
  cases a T σ with
  | exit i T1 σ1 => show Bool.rec (.exit i (w T1) σ1) (.normal (w T1) σ1) (Nat.beq i id) = mapT w (Bool.rec (.exit i T1 σ1) (.normal T1 σ1) (Nat.beq i id)); cases Nat.beq i id <;> rfl
  | _ => rfl
theorem Ind.lp {a : C} (ha : Ind w a) (n : Nat) : Ind w (lp n a) := by
  induction n with
  | zero => exact fun _ _ => rfl
  | succ n ih => exact Ind.sq ha ih
theorem Ind.lo {a : C} (ha : Ind w a) : Ind w (lo a) := Ind.lp ha _
end
noncomputable def wS (x y z : AV) (T : Tm) : Tm := s17 (s14 (s13 (s12 (s0 T x) y) z) x) x
set_option maxHeartbeats 4000000 in
set_option maxRecDepth 10000 in
theorem qZ_ind (x y z : AV) : Ind (wS x y z) qZ := by
  unfold qZ
  refine Ind.m (fun _ => rfl) (fun _ _ => rfl) ?_
  refine Ind.ev (fun _ _ => rfl) (fun _ _ => rfl) ?_
  refine Ind.ev (fun _ _ => rfl) (fun _ _ => rfl) ?_
  refine Ind.ev (fun _ _ => rfl) (fun _ _ => rfl) ?_
  refine Ind.c2 (fun _ => rfl) (fun _ => rfl) (fun _ _ => rfl) ?_
  refine Ind.m (fun _ => rfl) (fun _ _ => rfl) ?_
  exact Ind.rt
set_option maxHeartbeats 4000000 in
set_option maxRecDepth 10000 in
theorem qB_ind (x y z : AV) : Ind (wS x y z) qB := by
  unfold qB
  refine Ind.sq ?_ ?_
  refine Ind.bk ?_
  refine Ind.sq ?_ ?_
  refine Ind.m (fun _ => rfl) (fun _ _ => rfl) ?_
  refine Ind.bk ?_
  refine Ind.lo ?_
  refine Ind.sq ?_ ?_
  refine Ind.m (fun _ => rfl) (fun _ _ => rfl) ?_
  refine Ind.ev (fun _ _ => rfl) (fun _ _ => rfl) ?_
  refine Ind.ci (fun _ => rfl) ?_ ?_
  exact Ind.nd
  exact Ind.xt 2
  refine Ind.sq ?_ ?_
  refine Ind.bk ?_
  refine Ind.m (fun _ => rfl) (fun _ _ => rfl) ?_
  refine Ind.m (fun _ => rfl) (fun _ _ => rfl) ?_
  refine Ind.m (fun _ => rfl) (fun _ _ => rfl) ?_
  refine Ind.c3 (fun _ => rfl) (fun _ => rfl) (fun _ => rfl) (fun _ _ => rfl) ?_
  exact Ind.nd
  refine Ind.m (fun _ => rfl) (fun _ _ => rfl) ?_
  refine Ind.ev (fun _ _ => rfl) (fun _ _ => rfl) ?_
  refine Ind.m (fun _ => rfl) (fun _ _ => rfl) ?_
  exact Ind.nd
  refine Ind.sq ?_ ?_
  refine Ind.m (fun _ => rfl) (fun _ _ => rfl) ?_
  refine Ind.c1 (fun _ => rfl) (fun _ _ => rfl) ?_
  refine Ind.ev (fun _ _ => rfl) (fun _ _ => rfl) ?_
  refine Ind.m (fun _ => rfl) (fun _ _ => rfl) ?_
  refine Ind.mg (fun _ => rfl) (fun _ => rfl) (fun _ _ => rfl) ?_
  refine Ind.evg (fun _ => rfl) (fun _ _ => rfl) (fun _ _ => rfl) ?_
  refine Ind.evg (fun _ => rfl) (fun _ _ => rfl) (fun _ _ => rfl) ?_
  refine Ind.evg (fun _ => rfl) (fun _ _ => rfl) (fun _ _ => rfl) ?_
  refine Ind.evg (fun _ => rfl) (fun _ _ => rfl) (fun _ _ => rfl) ?_
  refine Ind.ev (fun _ _ => rfl) (fun _ _ => rfl) ?_
  refine Ind.ci (fun _ => rfl) ?_ ?_
  refine Ind.m (fun _ => rfl) (fun _ _ => rfl) ?_
  exact Ind.rt
  exact Ind.nd
  refine Ind.m (fun _ => rfl) (fun _ _ => rfl) ?_
  refine Ind.ev (fun _ _ => rfl) (fun _ _ => rfl) ?_
  refine Ind.ev (fun _ _ => rfl) (fun _ _ => rfl) ?_
  refine Ind.ev (fun _ _ => rfl) (fun _ _ => rfl) ?_
  refine Ind.ev (fun _ _ => rfl) (fun _ _ => rfl) ?_
  refine Ind.ev (fun _ _ => rfl) (fun _ _ => rfl) ?_
  refine Ind.ev (fun _ _ => rfl) (fun _ _ => rfl) ?_
  refine Ind.c1 (fun _ => rfl) (fun _ _ => rfl) ?_
  refine Ind.nw (fun _ => rfl) (fun _ _ => rfl) ?_
  refine Ind.ex (fun _ _ => rfl) (fun _ _ => rfl) ?_
  refine Ind.sq ?_ ?_
  refine Ind.ev (fun _ _ => rfl) (fun _ _ => rfl) ?_
  refine Ind.ev (fun _ _ => rfl) (fun _ _ => rfl) ?_
  refine Ind.ev (fun _ _ => rfl) (fun _ _ => rfl) ?_
  refine Ind.m (fun _ => rfl) (fun _ _ => rfl) ?_
  refine Ind.evg (fun _ => rfl) (fun _ _ => rfl) (fun _ _ => rfl) ?_
  refine Ind.evg (fun _ => rfl) (fun _ _ => rfl) (fun _ _ => rfl) ?_
  refine Ind.evg (fun _ => rfl) (fun _ _ => rfl) (fun _ _ => rfl) ?_
  refine Ind.ev (fun _ _ => rfl) (fun _ _ => rfl) ?_
  refine Ind.m (fun _ => rfl) (fun _ _ => rfl) ?_
  refine Ind.mg (fun _ => rfl) (fun _ => rfl) (fun _ _ => rfl) ?_
  refine Ind.evg (fun _ => rfl) (fun _ _ => rfl) (fun _ _ => rfl) ?_
  refine Ind.mg (fun _ => rfl) (fun _ => rfl) (fun _ _ => rfl) ?_
  refine Ind.evg (fun _ => rfl) (fun _ _ => rfl) (fun _ _ => rfl) ?_
  refine Ind.evg (fun _ => rfl) (fun _ _ => rfl) (fun _ _ => rfl) ?_
  refine Ind.mg (fun _ => rfl) (fun _ => rfl) (fun _ _ => rfl) ?_
  refine Ind.evg (fun _ => rfl) (fun _ _ => rfl) (fun _ _ => rfl) ?_
  refine Ind.evg (fun _ => rfl) (fun _ _ => rfl) (fun _ _ => rfl) ?_
  refine Ind.evg (fun _ => rfl) (fun _ _ => rfl) (fun _ _ => rfl) ?_
  refine Ind.ev (fun _ _ => rfl) (fun _ _ => rfl) ?_
  refine Ind.ci (fun _ => rfl) ?_ ?_
  refine Ind.m (fun _ => rfl) (fun _ _ => rfl) ?_
  exact Ind.rt
  exact Ind.nd
  refine Ind.m (fun _ => rfl) (fun _ _ => rfl) ?_
  refine Ind.ev (fun _ _ => rfl) (fun _ _ => rfl) ?_
  refine Ind.ci (fun _ => rfl) ?_ ?_
  refine Ind.ev (fun _ _ => rfl) (fun _ _ => rfl) ?_
  refine Ind.ev (fun _ _ => rfl) (fun _ _ => rfl) ?_
  refine Ind.m (fun _ => rfl) (fun _ _ => rfl) ?_
  exact Ind.nd
  exact Ind.nd
  refine Ind.m (fun _ => rfl) (fun _ _ => rfl) ?_
  refine Ind.ev (fun _ _ => rfl) (fun _ _ => rfl) ?_
  refine Ind.m (fun _ => rfl) (fun _ _ => rfl) ?_
  exact Ind.nd
end Go.Proofs.YtaogloegiffioaaGreatDoor
namespace Go.Proofs.YtaogloegiffioaaGreatDoor
set_option maxRecDepth 100000
noncomputable section
noncomputable def cL : Code → Code
  | .seq a _ => a
  | _ => .skip
noncomputable def cR : Code → Code
  | .seq _ b => b
  | _ => .skip
noncomputable def cI : Code → Code
  | .block _ c => c
  | .loop c => c
  | _ => .skip
def body7 : Code := (Tryz.f7.body).getD .skip
def r0 : Code := cL body7
def r1 : Code := cL (cR body7)
def x2 : Code := cL (cR (cR body7))
def r4 : Code := cL (cR (cR (cR body7)))
def r5 : Code := cL (cR (cR (cR (cR body7))))
def r6 : Code := cL (cR (cR (cR (cR (cR body7)))))
def y7 : Code := cR (cR (cR (cR (cR (cR body7)))))
def r7 : Code := cL (cL y7)
def lb : Code := cI (cI (cR (cL y7)))
def lbA : Code := cL lb
def lbB : Code := cR lb
def x8 : Code := cR y7
end
theorem body7_is : Tryz.f7.body = some (.seq r0 (.seq r1 (.seq x2 (.seq r4 (.seq r5 (.seq r6 (.seq (.seq r7 (.block 0 (.loop (.seq lbA lbB)))) x8))))))) := by kernel_rfl
theorem nt7 : Tryz.f7.ntmps = 75 := by kernel_rfl
theorem res7 : Tryz.f7.results = #[.tmp 2] := by kernel_rfl
section
variable {φ : Fu} (h : CallOk Tryz.prog 9 φ)
include h
theorem tab7_ok (g : FuncId) : CallOk Tryz.prog g (tab7 φ g) := by
  unfold tab7
  cases e : Nat.beq g 9
  · unfold tabK; exact tab_ok a300 g
  · rw [Nat.eq_of_beq_eq_true e]; exact h
theorem part {c : Code} {f : C} (hc : codeOk Tryz.prog noTab noVtab 75 c = true) (hd : denC Tryz.prog (tab7 φ) (vtabK 300) c = f) {T : Tm} {σ : St} {r : RC} (e : f T σ = r) (hr : r ≠ .no) : CG Tryz.prog 75 c T σ r :=
  CG.den mo (tab7_ok h) (fun n g => by unfold vtabK; exact vtab_ok a300 n g) hc hd e hr
end
theorem d0 (φ : Fu) : denC Tryz.prog (tab7 φ) (vtabK 300) r0 = m ff_ s2 nd := by kernel_rfl
theorem d1 (φ : Fu) : denC Tryz.prog (tab7 φ) (vtabK 300) r1 = c0 f8 s9 (m g9 s3 nd) := by kernel_rfl
theorem d2 (φ : Fu) : denC Tryz.prog (tab7 φ) (vtabK 300) x2 = m g3 s10 (ev (not_b g10) s11 (ci g11 (m ff_ s2 rt) nd)) := by kernel_rfl
theorem d4 (φ : Fu) : denC Tryz.prog (tab7 φ) (vtabK 300) r4 = m g0 s12 (c2 φ g12 i_8 s13 (ev (add_i64 i_1 g13) s14 (m g14 s0 nd))) := by kernel_rfl
theorem d5 (φ : Fu) : denC Tryz.prog (tab7 φ) (vtabK 300) r5 = c1 f10 i_600 s15 (m g15 s4 nd) := by kernel_rfl
theorem d6 (φ : Fu) : denC Tryz.prog (tab7 φ) (vtabK 300) r6 = m a53_ s5 nd := by kernel_rfl
theorem d7 (φ : Fu) : denC Tryz.prog (tab7 φ) (vtabK 300) r7 = m i_0 s6 nd := by kernel_rfl
theorem dA (φ : Fu) : denC Tryz.prog (tab7 φ) (vtabK 300) lbA = qA := by kernel_rfl
theorem dB (φ : Fu) : denC Tryz.prog (tab7 φ) (vtabK 300) lbB = qB := by kernel_rfl
theorem dZ (φ : Fu) : denC Tryz.prog (tab7 φ) (vtabK 300) x8 = qZ := by kernel_rfl
theorem ok0 : codeOk Tryz.prog noTab noVtab 75 r0 = true := by kernel_rfl
theorem ok1 : codeOk Tryz.prog noTab noVtab 75 r1 = true := by kernel_rfl
theorem ok2 : codeOk Tryz.prog noTab noVtab 75 x2 = true := by kernel_rfl
theorem ok4 : codeOk Tryz.prog noTab noVtab 75 r4 = true := by kernel_rfl
theorem ok5 : codeOk Tryz.prog noTab noVtab 75 r5 = true := by kernel_rfl
theorem ok6 : codeOk Tryz.prog noTab noVtab 75 r6 = true := by kernel_rfl
theorem ok7 : codeOk Tryz.prog noTab noVtab 75 r7 = true := by kernel_rfl
theorem okA : codeOk Tryz.prog noTab noVtab 75 lbA = true := by kernel_rfl
theorem okB : codeOk Tryz.prog noTab noVtab 75 lbB = true := by kernel_rfl
theorem okZ : codeOk Tryz.prog noTab noVtab 75 x8 = true := by kernel_rfl
theorem ev_of {e : E} {s : Tm → AV → Tm} {k : C} {T : Tm} {σ : St} {v : AV} (h : e T σ = .ok v) : ev e s k T σ = k (s T v) σ := by
  unfold ev; rw [h]
theorem lss_of {x y : G} {T : Tm} {σ : St} {a b : Nat} (hx : x T = .i64 a) (hy : y T = .i64 b) : lss_i64 x y T σ = .ok (.b (Nat.ble (Nat.succ a) b)) := by
  unfold lss_i64; rw [hx, hy]; rfl
theorem qA_is {T : Tm} {σ : St} {r k : Nat} (h6 : g6 T = .i64 r) (h0 : g0 T = .i64 k) : qA T σ = ci g18 nd (xt 0) (s18 (s17 (s16 T (.i64 r)) (.i64 k)) (.b (Nat.ble (Nat.succ r) k))) σ := by
  have e : ev (lss_i64 g16 g17) s18 (ci g18 nd (xt 0)) (s17 (s16 T (g6 T)) (g0 T)) σ = _ := ev_of (lss_of (show g16 _ = .i64 r from h6) (show g17 _ = .i64 k from h0))
  rw [h6, h0] at e
  refine Eq.trans ?_ e
  show ev (lss_i64 g16 g17) s18 (ci g18 nd (xt 0)) (s17 (s16 T (g6 T)) (g0 T)) σ = _
  rw [h6, h0]
theorem qA_go {T : Tm} {σ : St} {r k : Nat} (h6 : g6 T = .i64 r) (h0 : g0 T = .i64 k) (h : r < k) : qA T σ = .normal (s18 (s17 (s16 T (.i64 r)) (.i64 k)) (.b true)) σ := by
  rw [qA_is h6 h0, Nat.ble_eq_true_of_le h]
  rfl
theorem qA_end {T : Tm} {σ : St} {k : Nat} (h6 : g6 T = .i64 k) (h0 : g0 T = .i64 k) : qA T σ = .exit 0 (s18 (s17 (s16 T (.i64 k)) (.i64 k)) (.b false)) σ := by
  rw [qA_is h6 h0, show Nat.ble (Nat.succ k) k = false from by
    cases e : Nat.ble (Nat.succ k) k with
    | false => rfl
    | true => exact absurd (Nat.le_of_ble_eq_true e) (Nat.not_succ_le_self k)]
  rfl
noncomputable def hd (x y z u : AV) (T : Tm) : Tm := s17 (wS x y z T) u
theorem hd_A (x y z u : AV) (T : Tm) (r : Nat) (b : Bool) : s18 (s17 (s16 (hd x y z u T) (.i64 r)) x) (.b b) = wS x y z (TAk T r b) := by kernel_rfl
theorem hd_6 (x y z u : AV) (T : Tm) : g6 (hd x y z u T) = g6 T := by kernel_rfl
theorem hd_0 (x y z u : AV) (T : Tm) : g0 (hd x y z u T) = x := by kernel_rfl
theorem hd_w (x y z : AV) (T : Tm) : wS x y z T = hd x y z x T := by kernel_rfl
section
variable {φ : Fu} (h : CallOk Tryz.prog 9 φ)
include h
theorem round_ok {T T' : Tm} {σ σ' : St} {K : Kp} {r k : Nat} (rd : keepRC K (qB (TAk T r true) σ) = .normal T' σ') (h6 : g6 T = .i64 r) (hr : r < k) (y z u : AV) : CG Tryz.prog 75 (.seq lbA lbB) (hd (.i64 k) y z u T) σ (.normal (hd (.i64 k) y z (.i64 k) T') σ') := by
  obtain ⟨σ1, e, l⟩ := keepRC_normal rd
  refine CG.less (CG.seq (part h okA (dA φ) (qA_go ((hd_6 _ _ _ _ _).trans h6) (hd_0 _ _ _ _ _) hr) (by simp)) ?_) l
  rw [hd_A, ← hd_w]
  exact part h okB (dB φ) ((qB_ind _ _ _ _ _).trans (by rw [e]; rfl)) (by simp)
theorem end_ok {T : Tm} {σ : St} {k : Nat} (h6 : g6 T = .i64 k) (y z u : AV) : LG Tryz.prog 75 (.seq lbA lbB) (hd (.i64 k) y z u T) σ (.exit 0 (wS (.i64 k) y z (TAk T k false)) σ) := by
  rw [← hd_A (.i64 k) y z u T k false]
  refine LG.exit ?_
  exact CG.seq_exit (part h okA (dA φ) (qA_end ((hd_6 _ _ _ _ _).trans h6) (hd_0 _ _ _ _ _)) (by simp))
end
end Go.Proofs.YtaogloegiffioaaGreatDoor
