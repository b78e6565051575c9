/- Part 23 of a proof laid in parts, one behind the other; no condition of its own. -/
import Derived.Test.YtafoemfdchegkaaGreatDoorZ22
import Derived.Test.YtafoemfdchegkaaGreatDoorZ15
set_option linter.all false
section
namespace Go.Proofs.YtafoemfdchegkaaGreatDoor
open Go.Proofs.YtafoemfdchegkaaGreatDoor.Clo Go.RowKit
set_option maxRecDepth 1000000
set_option maxHeartbeats 0
noncomputable def x23_0 : AV := .cons (.s []) (.cons (.b true) (.nil))
noncomputable def y23_0 : AV := (.s [])
noncomputable def x23_1 : AV := .cons (.s [49]) (.cons (.b true) (.nil))
noncomputable def y23_1 : AV := (.s [49])
noncomputable def x23_2 : AV := .cons (.s [97]) (.cons (.b true) (.nil))
noncomputable def y23_2 : AV := (.s [97])
noncomputable def x23_3 : AV := .cons (.s [98]) (.cons (.b true) (.nil))
noncomputable def y23_3 : AV := (.s [98])
noncomputable def x23_4 : AV := .cons (.s [99]) (.cons (.b true) (.nil))
noncomputable def y23_4 : AV := (.s [99])
noncomputable def x23_5 : AV := .cons (.s [49,48]) (.cons (.b true) (.nil))
noncomputable def y23_5 : AV := (.s [49,48])
noncomputable def x23_6 : AV := .cons (.s [49,49]) (.cons (.b true) (.nil))
noncomputable def y23_6 : AV := (.s [49,49])
noncomputable def x23_7 : AV := .cons (.s [117,64,97]) (.cons (.b true) (.nil))
noncomputable def y23_7 : AV := (.s [117,64,97])
noncomputable def x23_8 : AV := .cons (.s [118,64,97]) (.cons (.b true) (.nil))
noncomputable def y23_8 : AV := (.s [118,64,97])
noncomputable def x23_9 : AV := .cons (.s [48,48,48,48,48,48,48,48,48,48,48,48,48,48,102,102]) (.cons (.b true) (.nil))
noncomputable def y23_9 : AV := (.s [48,48,48,48,48,48,48,48,48,48,48,48,48,48,102,102])
noncomputable def x23_10 : AV := .cons (.s [104,116,116,112,58,47,47,101,116,104,101,114,120,46,106,97,98,98,101,114,46,111,114,103,47,115,116,114,101,97,109,115]) (.cons (.b true) (.nil))
noncomputable def y23_10 : AV := (.s [104,116,116,112,58,47,47,101,116,104,101,114,120,46,106,97,98,98,101,114,46,111,114,103,47,115,116,114,101,97,109,115])
noncomputable def x23_11 : AV := .cons (.s [117,114,110,58,105,101,116,102,58,112,97,114,97,109,115,58,120,109,108,58,110,115,58,120,109,112,112,45,98,105,110,100]) (.cons (.b true) (.nil))
noncomputable def y23_11 : AV := (.s [117,114,110,58,105,101,116,102,58,112,97,114,97,109,115,58,120,109,108,58,110,115,58,120,109,112,112,45,98,105,110,100])
noncomputable def x23_12 : AV := .cons (.s [104,116,116,112,58,47,47,106,97,98,98,101,114,46,111,114,103,47,112,114,111,116,111,99,111,108,47,104,116,116,112,98,105,110,100]) (.cons (.b true) (.nil))
noncomputable def y23_12 : AV := (.s [104,116,116,112,58,47,47,106,97,98,98,101,114,46,111,114,103,47,112,114,111,116,111,99,111,108,47,104,116,116,112,98,105,110,100])
theorem qg23_0 : (known tab2 100 458 x23_0 y23_0 && (known tab2 100 458 x23_1 y23_1 && (known tab2 100 458 x23_2 y23_2 && (known tab2 100 458 x23_3 y23_3 && (known tab2 100 458 x23_4 y23_4 && (known tab2 100 458 x23_5 y23_5 && (known tab2 100 458 x23_6 y23_6 && (known tab2 100 458 x23_7 y23_7 && (known tab2 100 458 x23_8 y23_8 && (known tab2 100 458 x23_9 y23_9 && (known tab2 100 458 x23_10 y23_10 && (known tab2 100 458 x23_11 y23_11 && (known tab2 100 458 x23_12 y23_12))))))))))))) = true := by kernel_rfl
theorem q23_0 : known tab2 100 458 x23_0 y23_0 = true := and_l qg23_0
theorem q23_1 : known tab2 100 458 x23_1 y23_1 = true := and_l (and_r qg23_0)
theorem q23_2 : known tab2 100 458 x23_2 y23_2 = true := and_l (and_r (and_r qg23_0))
theorem q23_3 : known tab2 100 458 x23_3 y23_3 = true := and_l (and_r (and_r (and_r qg23_0)))
theorem q23_4 : known tab2 100 458 x23_4 y23_4 = true := and_l (and_r (and_r (and_r (and_r qg23_0))))
theorem q23_5 : known tab2 100 458 x23_5 y23_5 = true := and_l (and_r (and_r (and_r (and_r (and_r qg23_0)))))
theorem q23_6 : known tab2 100 458 x23_6 y23_6 = true := and_l (and_r (and_r (and_r (and_r (and_r (and_r qg23_0))))))
theorem q23_7 : known tab2 100 458 x23_7 y23_7 = true := and_l (and_r (and_r (and_r (and_r (and_r (and_r (and_r qg23_0)))))))
theorem q23_8 : known tab2 100 458 x23_8 y23_8 = true := and_l (and_r (and_r (and_r (and_r (and_r (and_r (and_r (and_r qg23_0))))))))
theorem q23_9 : known tab2 100 458 x23_9 y23_9 = true := and_l (and_r (and_r (and_r (and_r (and_r (and_r (and_r (and_r (and_r qg23_0)))))))))
theorem q23_10 : known tab2 100 458 x23_10 y23_10 = true := and_l (and_r (and_r (and_r (and_r (and_r (and_r (and_r (and_r (and_r (and_r qg23_0))))))))))
theorem q23_11 : known tab2 100 458 x23_11 y23_11 = true := and_l (and_r (and_r (and_r (and_r (and_r (and_r (and_r (and_r (and_r (and_r (and_r qg23_0)))))))))))
theorem q23_12 : known tab2 100 458 x23_12 y23_12 = true := (and_r (and_r (and_r (and_r (and_r (and_r (and_r (and_r (and_r (and_r (and_r (and_r qg23_0))))))))))))
noncomputable def m23 : MTree := .node (.node (.node (.node (.leaf) 7 x23_0 y23_0 (.leaf)) 1693 x23_1 y23_1 (.node (.leaf) 1837 x23_2 y23_2 (.leaf))) 1840 x23_3 y23_3 (.node (.node (.leaf) 1843 x23_4 y23_4 (.leaf)) 434992 x23_5 y23_5 (.leaf))) 434995 x23_6 y23_6 (.node (.node (.node (.leaf) 125279314 x23_7 y23_7 (.leaf)) 125477461 x23_8 y23_8 (.node (.leaf) 2381080750037185196768698353472384660603 x23_9 y23_9 (.leaf))) 948547895130388436692245842472422954816648306502909203358486498442914419060935 x23_10 y23_10 (.node (.node (.leaf) 968442175361845514163331513307325051908338007553910543885185370331538418967443 x23_11 y23_11 (.leaf)) 16101214460845025646486191781096809263964907734496227964277256025846822205804836293011 x23_12 y23_12 (.leaf)))
theorem k23 : m23.all (known tab2 100 458) = true := MTree.all_node (MTree.all_node (MTree.all_node (MTree.all_node (rfl) q23_0 (rfl)) q23_1 (MTree.all_node (rfl) q23_2 (rfl))) q23_3 (MTree.all_node (MTree.all_node (rfl) q23_4 (rfl)) q23_5 (rfl))) q23_6 (MTree.all_node (MTree.all_node (MTree.all_node (rfl) q23_7 (rfl)) q23_8 (MTree.all_node (rfl) q23_9 (rfl))) q23_10 (MTree.all_node (MTree.all_node (rfl) q23_11 (rfl)) q23_12 (rfl)))
noncomputable def g23 : Ent Tryz.prog 9 := e458.memo m23 (by kernel_rfl) Tryz.call458 k23
end Go.Proofs.YtafoemfdchegkaaGreatDoor
end
section
namespace Go.Proofs.YtafoemfdchegkaaGreatDoor
open Go.Proofs.YtafoemfdchegkaaGreatDoor.Clo Go.RowKit
set_option maxRecDepth 1000000
set_option maxHeartbeats 0
noncomputable def x24_0 : AV := .cons (.s []) (.nil)
noncomputable def y24_0 : AV := (.tu (.cons (.ag (.cons (.s []) (.cons (.s []) (.cons (.s []) (.nil))))) (.cons (.i .i64 190) (.nil))))
noncomputable def x24_1 : AV := .cons (.s [117,64,97]) (.nil)
noncomputable def y24_1 : AV := (.tu (.cons (.ag (.cons (.s [117]) (.cons (.s [97]) (.cons (.s []) (.nil))))) (.cons (.i .i64 0) (.nil))))
noncomputable def x24_2 : AV := .cons (.s [118,64,97]) (.nil)
noncomputable def y24_2 : AV := (.tu (.cons (.ag (.cons (.s [118]) (.cons (.s [97]) (.cons (.s []) (.nil))))) (.cons (.i .i64 0) (.nil))))
theorem qg24_0 : (known tab2 100 159 x24_0 y24_0 && (known tab2 100 159 x24_1 y24_1 && (known tab2 100 159 x24_2 y24_2))) = true := by kernel_rfl
theorem q24_0 : known tab2 100 159 x24_0 y24_0 = true := and_l qg24_0
theorem q24_1 : known tab2 100 159 x24_1 y24_1 = true := and_l (and_r qg24_0)
theorem q24_2 : known tab2 100 159 x24_2 y24_2 = true := (and_r (and_r qg24_0))
noncomputable def m24 : MTree := .node (.node (.leaf) 2 x24_0 y24_0 (.leaf)) 41759771 x24_1 y24_1 (.node (.leaf) 41825820 x24_2 y24_2 (.leaf))
theorem k24 : m24.all (known tab2 100 159) = true := MTree.all_node (MTree.all_node (rfl) q24_0 (rfl)) q24_1 (MTree.all_node (rfl) q24_2 (rfl))
noncomputable def g24 : Ent Tryz.prog 9 := e159.memo m24 (by kernel_rfl) Tryz.call159 k24
end Go.Proofs.YtafoemfdchegkaaGreatDoor
end
section
namespace Go.Proofs.YtafoemfdchegkaaGreatDoor
open Go.Proofs.YtafoemfdchegkaaGreatDoor.Clo Go.RowKit
set_option maxRecDepth 1000000
set_option maxHeartbeats 0
noncomputable def x25_0 : AV := .cons (.ag (.cons (.s []) (.cons (.s []) (.cons (.s []) (.nil))))) (.nil)
noncomputable def y25_0 : AV := (.tu (.cons (.s []) (.cons (.i .i64 8) (.nil))))
noncomputable def x25_1 : AV := .cons (.ag (.cons (.s [117]) (.cons (.s [97]) (.cons (.s []) (.nil))))) (.nil)
noncomputable def y25_1 : AV := (.tu (.cons (.s [117,64,97]) (.cons (.i .i64 0) (.nil))))
theorem qg25_0 : (known tab2 100 160 x25_0 y25_0 && (known tab2 100 160 x25_1 y25_1)) = true := by kernel_rfl
theorem q25_0 : known tab2 100 160 x25_0 y25_0 = true := and_l qg25_0
theorem q25_1 : known tab2 100 160 x25_1 y25_1 = true := (and_r qg25_0)
noncomputable def m25 : MTree := .node (.node (.leaf) 4 x25_0 y25_0 (.leaf)) 162780 x25_1 y25_1 (.leaf)
theorem k25 : m25.all (known tab2 100 160) = true := MTree.all_node (MTree.all_node (rfl) q25_0 (rfl)) q25_1 (rfl)
noncomputable def g25 : Ent Tryz.prog 9 := e160.memo m25 (by kernel_rfl) Tryz.call160 k25
end Go.Proofs.YtafoemfdchegkaaGreatDoor
end
section
namespace Go.Proofs.YtafoemfdchegkaaGreatDoor
open Go.Proofs.YtafoemfdchegkaaGreatDoor.Clo Go.RowKit
set_option maxRecDepth 1000000
set_option maxHeartbeats 0
noncomputable def tab3 : FTree Tryz.prog 9 := .node (.node (.node (.node (.node (.node (.node (.node (.node (.leaf) (e3) (.leaf)) (e4) (.node (.leaf) (e5) (.leaf))) (e6) (.node (.node (.leaf) (e7) (.leaf)) (e8) (.leaf))) (e9) (.node (.node (.node (.leaf) (e10) (.leaf)) (e11) (.leaf)) (e12) (.node (.node (.leaf) (e13) (.leaf)) (e14) (.leaf)))) (e15) (.node (.node (.node (.node (.leaf) (e16) (.leaf)) (e17) (.node (.leaf) (e18) (.leaf))) (e19) (.node (.node (.leaf) (e20) (.leaf)) (e21) (.leaf))) (e22) (.node (.node (.node (.leaf) (e23) (.leaf)) (e24) (.leaf)) (e25) (.node (.node (.leaf) (e26) (.leaf)) (e27) (.leaf))))) (e28) (.node (.node (.node (.node (.node (.leaf) (e29) (.leaf)) (g17) (.node (.leaf) (e31) (.leaf))) (e32) (.node (.node (.leaf) (e33) (.leaf)) (e34) (.leaf))) (e35) (.node (.node (.node (.leaf) (e36) (.leaf)) (e37) (.leaf)) (e38) (.node (.node (.leaf) (e39) (.leaf)) (e40) (.leaf)))) (e41) (.node (.node (.node (.node (.leaf) (e42) (.leaf)) (e43) (.node (.leaf) (e44) (.leaf))) (e45) (.node (.node (.leaf) (e46) (.leaf)) (e47) (.leaf))) (e48) (.node (.node (.node (.leaf) (g19) (.leaf)) (e50) (.leaf)) (e51) (.node (.node (.leaf) (e52) (.leaf)) (e53) (.leaf)))))) (e54) (.node (.node (.node (.node (.node (.node (.leaf) (e55) (.leaf)) (e56) (.node (.leaf) (e57) (.leaf))) (e58) (.node (.node (.leaf) (e59) (.leaf)) (e60) (.leaf))) (e61) (.node (.node (.node (.leaf) (e62) (.leaf)) (e65) (.leaf)) (e66) (.node (.node (.leaf) (e67) (.leaf)) (e68) (.leaf)))) (e70) (.node (.node (.node (.node (.leaf) (e71) (.leaf)) (e72) (.node (.leaf) (e73) (.leaf))) (e74) (.node (.node (.leaf) (e75) (.leaf)) (e76) (.leaf))) (e79) (.node (.node (.node (.leaf) (e81) (.leaf)) (e82) (.leaf)) (e83) (.node (.node (.leaf) (e84) (.leaf)) (e85) (.leaf))))) (e86) (.node (.node (.node (.node (.node (.leaf) (e88) (.leaf)) (e89) (.node (.leaf) (e90) (.leaf))) (e91) (.node (.node (.leaf) (e92) (.leaf)) (e93) (.leaf))) (e94) (.node (.node (.node (.leaf) (e95) (.leaf)) (e96) (.leaf)) (e97) (.node (.node (.leaf) (e98) (.leaf)) (e100) (.leaf)))) (e101) (.node (.node (.node (.node (.leaf) (g14) (.leaf)) (e103) (.node (.leaf) (e104) (.leaf))) (e105) (.node (.node (.leaf) (e106) (.leaf)) (e107) (.leaf))) (e108) (.node (.node (.node (.leaf) (e109) (.leaf)) (e110) (.leaf)) (e111) (.node (.node (.leaf) (e112) (.leaf)) (e113) (.leaf))))))) (e114) (.node (.node (.node (.node (.node (.node (.node (.leaf) (e115) (.leaf)) (e116) (.node (.leaf) (e118) (.leaf))) (e119) (.node (.node (.leaf) (e120) (.leaf)) (e121) (.leaf))) (e122) (.node (.node (.node (.leaf) (e123) (.leaf)) (e124) (.leaf)) (e125) (.node (.node (.leaf) (e126) (.leaf)) (e127) (.leaf)))) (e128) (.node (.node (.node (.node (.leaf) (e129) (.leaf)) (e130) (.node (.leaf) (e131) (.leaf))) (e132) (.node (.node (.leaf) (e133) (.leaf)) (e134) (.leaf))) (e135) (.node (.node (.node (.leaf) (e136) (.leaf)) (e137) (.leaf)) (e138) (.node (.node (.leaf) (e139) (.leaf)) (e140) (.leaf))))) (e141) (.node (.node (.node (.node (.node (.leaf) (e142) (.leaf)) (e143) (.node (.leaf) (e144) (.leaf))) (e145) (.node (.node (.leaf) (e147) (.leaf)) (e148) (.leaf))) (e149) (.node (.node (.node (.leaf) (e150) (.leaf)) (e151) (.leaf)) (e152) (.node (.node (.leaf) (e153) (.leaf)) (e154) (.leaf)))) (e155) (.node (.node (.node (.node (.leaf) (e156) (.leaf)) (e157) (.node (.leaf) (e158) (.leaf))) (g24) (.node (.node (.leaf) (g25) (.leaf)) (e164) (.leaf))) (e165) (.node (.node (.node (.leaf) (e166) (.leaf)) (e167) (.leaf)) (e168) (.node (.node (.leaf) (e169) (.leaf)) (g15) (.leaf)))))) (e172) (.node (.node (.node (.node (.node (.node (.leaf) (g5) (.leaf)) (g20) (.node (.leaf) (e175) (.leaf))) (e176) (.node (.node (.leaf) (e179) (.leaf)) (e180) (.leaf))) (e181) (.node (.node (.node (.leaf) (e182) (.leaf)) (e184) (.leaf)) (e185) (.node (.node (.leaf) (e187) (.leaf)) (e190) (.leaf)))) (e191) (.node (.node (.node (.node (.leaf) (g13) (.leaf)) (e193) (.node (.leaf) (e194) (.leaf))) (e195) (.node (.node (.leaf) (e196) (.leaf)) (g11) (.leaf))) (e198) (.node (.node (.node (.leaf) (e199) (.leaf)) (e200) (.leaf)) (e201) (.node (.node (.leaf) (e202) (.leaf)) (e204) (.leaf))))) (e205) (.node (.node (.node (.node (.node (.leaf) (e206) (.leaf)) (e209) (.node (.leaf) (e210) (.leaf))) (e211) (.node (.node (.leaf) (e212) (.leaf)) (e213) (.leaf))) (e214) (.node (.node (.node (.leaf) (e215) (.leaf)) (e216) (.leaf)) (e217) (.node (.node (.leaf) (e218) (.leaf)) (e219) (.leaf)))) (e220) (.node (.node (.node (.node (.leaf) (e225) (.leaf)) (e227) (.leaf)) (e228) (.node (.node (.leaf) (e229) (.leaf)) (e230) (.leaf))) (e231) (.node (.node (.node (.leaf) (e232) (.leaf)) (e233) (.leaf)) (g9) (.node (.node (.leaf) (g8) (.leaf)) (g7) (.leaf)))))))) (e237) (.node (.node (.node (.node (.node (.node (.node (.node (.leaf) (e238) (.leaf)) (e240) (.node (.leaf) (e241) (.leaf))) (e242) (.node (.node (.leaf) (e243) (.leaf)) (e244) (.leaf))) (e245) (.node (.node (.node (.leaf) (e246) (.leaf)) (e247) (.leaf)) (g1) (.node (.node (.leaf) (e251) (.leaf)) (e252) (.leaf)))) (e255) (.node (.node (.node (.node (.leaf) (e256) (.leaf)) (e257) (.node (.leaf) (e258) (.leaf))) (e259) (.node (.node (.leaf) (e260) (.leaf)) (e261) (.leaf))) (e262) (.node (.node (.node (.leaf) (e263) (.leaf)) (e264) (.leaf)) (e265) (.node (.node (.leaf) (e266) (.leaf)) (e267) (.leaf))))) (g16) (.node (.node (.node (.node (.node (.leaf) (e269) (.leaf)) (e270) (.node (.leaf) (e271) (.leaf))) (e272) (.node (.node (.leaf) (e273) (.leaf)) (e274) (.leaf))) (e275) (.node (.node (.node (.leaf) (e276) (.leaf)) (e279) (.leaf)) (e280) (.node (.node (.leaf) (g21) (.leaf)) (e282) (.leaf)))) (e283) (.node (.node (.node (.node (.leaf) (e284) (.leaf)) (e287) (.node (.leaf) (e288) (.leaf))) (e289) (.node (.node (.leaf) (e290) (.leaf)) (e291) (.leaf))) (e292) (.node (.node (.node (.leaf) (e293) (.leaf)) (e297) (.leaf)) (e298) (.node (.node (.leaf) (g12) (.leaf)) (e300) (.leaf)))))) (g10) (.node (.node (.node (.node (.node (.node (.leaf) (g18) (.leaf)) (e303) (.node (.leaf) (e305) (.leaf))) (e306) (.node (.node (.leaf) (e307) (.leaf)) (e308) (.leaf))) (e309) (.node (.node (.node (.leaf) (e310) (.leaf)) (e312) (.leaf)) (e313) (.node (.node (.leaf) (e314) (.leaf)) (e315) (.leaf)))) (e316) (.node (.node (.node (.node (.leaf) (e317) (.leaf)) (e318) (.node (.leaf) (e319) (.leaf))) (e326) (.node (.node (.leaf) (e327) (.leaf)) (e328) (.leaf))) (e329) (.node (.node (.node (.leaf) (e330) (.leaf)) (e331) (.leaf)) (e332) (.node (.node (.leaf) (e333) (.leaf)) (e334) (.leaf))))) (e335) (.node (.node (.node (.node (.node (.leaf) (e336) (.leaf)) (e337) (.node (.leaf) (e338) (.leaf))) (e341) (.node (.node (.leaf) (e342) (.leaf)) (e343) (.leaf))) (e344) (.node (.node (.node (.leaf) (e345) (.leaf)) (e346) (.leaf)) (e349) (.node (.node (.leaf) (e354) (.leaf)) (e355) (.leaf)))) (e356) (.node (.node (.node (.node (.leaf) (e357) (.leaf)) (e358) (.node (.leaf) (e359) (.leaf))) (e360) (.node (.node (.leaf) (e361) (.leaf)) (e362) (.leaf))) (e363) (.node (.node (.node (.leaf) (g4) (.leaf)) (e365) (.leaf)) (e366) (.node (.node (.leaf) (e369) (.leaf)) (e372) (.leaf))))))) (e373) (.node (.node (.node (.node (.node (.node (.node (.leaf) (g3) (.leaf)) (e377) (.node (.leaf) (e378) (.leaf))) (e379) (.node (.node (.leaf) (e380) (.leaf)) (e381) (.leaf))) (e382) (.node (.node (.node (.leaf) (e386) (.leaf)) (e387) (.leaf)) (e388) (.node (.node (.leaf) (e389) (.leaf)) (e390) (.leaf)))) (e391) (.node (.node (.node (.node (.leaf) (e392) (.leaf)) (e402) (.node (.leaf) (e404) (.leaf))) (e405) (.node (.node (.leaf) (e406) (.leaf)) (e407) (.leaf))) (e408) (.node (.node (.node (.leaf) (e410) (.leaf)) (e414) (.leaf)) (e429) (.node (.node (.leaf) (e431) (.leaf)) (e432) (.leaf))))) (e433) (.node (.node (.node (.node (.node (.leaf) (e435) (.leaf)) (e436) (.node (.leaf) (e438) (.leaf))) (e439) (.node (.node (.leaf) (e440) (.leaf)) (e441) (.leaf))) (e442) (.node (.node (.node (.leaf) (e443) (.leaf)) (e444) (.leaf)) (e445) (.node (.node (.leaf) (e446) (.leaf)) (g6) (.leaf)))) (e448) (.node (.node (.node (.node (.leaf) (e449) (.leaf)) (e452) (.node (.leaf) (e456) (.leaf))) (e457) (.node (.node (.leaf) (g23) (.leaf)) (e459) (.leaf))) (e462) (.node (.node (.node (.leaf) (e463) (.leaf)) (e464) (.leaf)) (e465) (.node (.node (.leaf) (e468) (.leaf)) (e476) (.leaf)))))) (e478) (.node (.node (.node (.node (.node (.node (.leaf) (e479) (.leaf)) (e481) (.node (.leaf) (e482) (.leaf))) (e483) (.node (.node (.leaf) (e485) (.leaf)) (e486) (.leaf))) (e508) (.node (.node (.node (.leaf) (e509) (.leaf)) (e510) (.leaf)) (e512) (.node (.node (.leaf) (e513) (.leaf)) (e514) (.leaf)))) (g22) (.node (.node (.node (.node (.leaf) (e517) (.leaf)) (e518) (.node (.leaf) (e519) (.leaf))) (e520) (.node (.node (.leaf) (e521) (.leaf)) (e522) (.leaf))) (e523) (.node (.node (.node (.leaf) (e524) (.leaf)) (e525) (.leaf)) (e526) (.node (.node (.leaf) (e527) (.leaf)) (e529) (.leaf))))) (e533) (.node (.node (.node (.node (.node (.leaf) (e538) (.leaf)) (e539) (.node (.leaf) (e540) (.leaf))) (e566) (.node (.node (.leaf) (e567) (.leaf)) (e570) (.leaf))) (e571) (.node (.node (.node (.leaf) (e572) (.leaf)) (e573) (.leaf)) (e575) (.node (.node (.leaf) (e576) (.leaf)) (e577) (.leaf)))) (e618) (.node (.node (.node (.node (.leaf) (e619) (.leaf)) (g2) (.leaf)) (e626) (.node (.node (.leaf) (e654) (.leaf)) (e659) (.leaf))) (e735) (.node (.node (.node (.leaf) (e736) (.leaf)) (e737) (.leaf)) (e738) (.node (.node (.leaf) (e739) (.leaf)) (e740) (.leaf))))))))
end Go.Proofs.YtafoemfdchegkaaGreatDoor
end
section
namespace Go.Proofs.YtafoemfdchegkaaGreatDoor
open Go.Proofs.YtafoemfdchegkaaGreatDoor.Clo Go.RowKit
set_option maxRecDepth 1000000
set_option maxHeartbeats 0
noncomputable def x26_0 : AV := .cons (.ag (.cons (.i .u8 4) (.cons (.s []) (.cons (.sn) (.cons (.s [120]) (.nil)))))) (.nil)
noncomputable def y26_0 : AV := (.i .i64 0)
noncomputable def x26_1 : AV := .cons (.ag (.cons (.i .u8 2) (.cons (.s [98,111,100,121]) (.cons (.sn) (.cons (.s []) (.nil)))))) (.nil)
noncomputable def y26_1 : AV := (.i .i64 0)
noncomputable def x26_2 : AV := .cons (.ag (.cons (.i .u8 2) (.cons (.s [102,101,97,116,117,114,101,115]) (.cons (.sn) (.cons (.s []) (.nil)))))) (.nil)
noncomputable def y26_2 : AV := (.i .i64 0)
theorem qg26_0 : (known tab3 100 361 x26_0 y26_0 && (known tab3 100 361 x26_1 y26_1 && (known tab3 100 361 x26_2 y26_2))) = true := by kernel_rfl
theorem q26_0 : known tab3 100 361 x26_0 y26_0 = true := and_l qg26_0
theorem q26_1 : known tab3 100 361 x26_1 y26_1 = true := and_l (and_r qg26_0)
theorem q26_2 : known tab3 100 361 x26_2 y26_2 = true := (and_r (and_r qg26_0))
noncomputable def m26 : MTree := .node (.node (.leaf) 257002434 x26_0 y26_0 (.leaf)) 4362498263730681 x26_1 y26_1 (.node (.leaf) 19031269843258870120126126 x26_2 y26_2 (.leaf))
theorem k26 : m26.all (known tab3 100 361) = true := MTree.all_node (MTree.all_node (rfl) q26_0 (rfl)) q26_1 (MTree.all_node (rfl) q26_2 (rfl))
noncomputable def g26 : Ent Tryz.prog 9 := e361.memo m26 (by kernel_rfl) Tryz.call361 k26
end Go.Proofs.YtafoemfdchegkaaGreatDoor
end
section
namespace Go.Proofs.YtafoemfdchegkaaGreatDoor
open Go.Proofs.YtafoemfdchegkaaGreatDoor.Clo Go.RowKit
set_option maxRecDepth 1000000
set_option maxHeartbeats 0
noncomputable def x27_0 : AV := .cons (.s [117,64,97]) (.nil)
noncomputable def y27_0 : AV := (.tu (.cons (.ag (.cons (.s [117]) (.cons (.s [97]) (.cons (.s []) (.nil))))) (.cons (.b true) (.nil))))
theorem qg27_0 : (known tab3 100 58 x27_0 y27_0) = true := by kernel_rfl
theorem q27_0 : known tab3 100 58 x27_0 y27_0 = true := qg27_0
noncomputable def m27 : MTree := .node (.leaf) 41759771 x27_0 y27_0 (.leaf)
theorem k27 : m27.all (known tab3 100 58) = true := MTree.all_node (rfl) q27_0 (rfl)
noncomputable def g27 : Ent Tryz.prog 9 := e58.memo m27 (by kernel_rfl) Tryz.call58 k27
end Go.Proofs.YtafoemfdchegkaaGreatDoor
end
section
namespace Go.Proofs.YtafoemfdchegkaaGreatDoor
open Go.Proofs.YtafoemfdchegkaaGreatDoor.Clo Go.RowKit
set_option maxRecDepth 1000000
set_option maxHeartbeats 0
noncomputable def x28_0 : AV := .cons (.ag (.cons (.i .u8 1) (.cons (.s []) (.cons (.s [120]) (.cons (.sn) (.cons (.s []) (.cons (.i .i64 0) (.nil)))))))) (.nil)
noncomputable def y28_0 : AV := (.b true)
noncomputable def x28_1 : AV := .cons (.ag (.cons (.i .u8 1) (.cons (.s [117,114,110,58,105,101,116,102,58,112,97,114,97,109,115,58,120,109,108,58,110,115,58,120,109,112,112,45,98,105,110,100]) (.cons (.s [98,105,110,100]) (.cons (.sn) (.cons (.s []) (.cons (.i .i64 0) (.nil)))))))) (.nil)
noncomputable def y28_1 : AV := (.b true)
noncomputable def x28_2 : AV := .cons (.ag (.cons (.i .u8 1) (.cons (.s [104,116,116,112,58,47,47,101,116,104,101,114,120,46,106,97,98,98,101,114,46,111,114,103,47,115,116,114,101,97,109,115]) (.cons (.s [102,101,97,116,117,114,101,115]) (.cons (.sn) (.cons (.s []) (.cons (.i .i64 1) (.nil)))))))) (.nil)
noncomputable def y28_2 : AV := (.b true)
theorem qg28_0 : (known tab3 100 155 x28_0 y28_0 && (known tab3 100 155 x28_1 y28_1 && (known tab3 100 155 x28_2 y28_2))) = true := by kernel_rfl
theorem q28_0 : known tab3 100 155 x28_0 y28_0 = true := and_l qg28_0
theorem q28_1 : known tab3 100 155 x28_1 y28_1 = true := and_l (and_r qg28_0)
theorem q28_2 : known tab3 100 155 x28_2 y28_2 = true := (and_r (and_r qg28_0))
noncomputable def m28 : MTree := .node (.node (.leaf) 257002435004992 x28_0 y28_0 (.leaf)) 572263589249132786246378085843057312968542877238987123089078334596945653838833236007504438428581444 x28_1 y28_1 (.node (.leaf) 2496482843465321173794359044631704127742877702400231030177641035504330315782560445962891597769552591128210507 x28_2 y28_2 (.leaf))
theorem k28 : m28.all (known tab3 100 155) = true := MTree.all_node (MTree.all_node (rfl) q28_0 (rfl)) q28_1 (MTree.all_node (rfl) q28_2 (rfl))
noncomputable def g28 : Ent Tryz.prog 9 := e155.memo m28 (by kernel_rfl) Tryz.call155 k28
end Go.Proofs.YtafoemfdchegkaaGreatDoor
end
section
namespace Go.Proofs.YtafoemfdchegkaaGreatDoor
open Go.Proofs.YtafoemfdchegkaaGreatDoor.Clo Go.RowKit
set_option maxRecDepth 1000000
set_option maxHeartbeats 0
noncomputable def x29_0 : AV := .cons (.s [48,48,48,48,48,48,48,48,48,48,48,48,48,48,102,102]) (.cons (.s [117,64,97]) (.cons (.s [97]) (.nil)))
noncomputable def y29_0 : AV := (.b true)
theorem qg29_0 : (known tab3 100 193 x29_0 y29_0) = true := by kernel_rfl
theorem q29_0 : known tab3 100 193 x29_0 y29_0 = true := qg29_0
noncomputable def m29 : MTree := .node (.leaf) 3462464764809366690086269136773571217593921738235 x29_0 y29_0 (.leaf)
theorem k29 : m29.all (known tab3 100 193) = true := MTree.all_node (rfl) q29_0 (rfl)
noncomputable def g29 : Ent Tryz.prog 9 := e193.memo m29 (by kernel_rfl) Tryz.call193 k29
end Go.Proofs.YtafoemfdchegkaaGreatDoor
end
section
namespace Go.Proofs.YtafoemfdchegkaaGreatDoor
open Go.Proofs.YtafoemfdchegkaaGreatDoor.Clo Go.RowKit
set_option maxRecDepth 1000000
set_option maxHeartbeats 0
noncomputable def x30_0 : AV := .cons (.s []) (.cons (.s [117,64,97]) (.nil))
noncomputable def y30_0 : AV := (.b true)
theorem qg30_0 : (known tab3 100 194 x30_0 y30_0) = true := by kernel_rfl
theorem q30_0 : known tab3 100 194 x30_0 y30_0 = true := qg30_0
noncomputable def m30 : MTree := .node (.leaf) 58734364 x30_0 y30_0 (.leaf)
theorem k30 : m30.all (known tab3 100 194) = true := MTree.all_node (rfl) q30_0 (rfl)
noncomputable def g30 : Ent Tryz.prog 9 := e194.memo m30 (by kernel_rfl) Tryz.call194 k30
end Go.Proofs.YtafoemfdchegkaaGreatDoor
end
section
namespace Go.Proofs.YtafoemfdchegkaaGreatDoor
open Go.Proofs.YtafoemfdchegkaaGreatDoor.Clo Go.RowKit
set_option maxRecDepth 1000000
set_option maxHeartbeats 0
noncomputable def x31_0 : AV := .cons (.ag (.cons (.i .i64 10) (.cons (.s []) (.cons (.s []) (.cons (.s []) (.cons (.s []) (.cons (.i .i64 (-1)) (.cons (.i .i64 1) (.cons (.i .i64 (-1)) (.cons (.i .i64 (-1)) (.cons (.i .i64 (-1)) (.cons (.i .i64 (-1)) (.cons (.s []) (.cons (.s []) (.cons (.b false) (.cons (.b false) (.cons (.sn) (.nil)))))))))))))))))) (.nil)
noncomputable def y31_0 : AV := (.tu (.cons (.s [60,98,111,100,121,32,120,109,108,110,115,61,34,104,116,116,112,58,47,47,106,97,98,98,101,114,46,111,114,103,47,112,114,111,116,111,99,111,108,47,104,116,116,112,98,105,110,100,34,32,114,105,100,61,34,49,48,34,32,104,111,108,100,61,34,49,34,47,62]) (.cons (.i .i64 0) (.nil))))
noncomputable def x31_1 : AV := .cons (.ag (.cons (.i .i64 10) (.cons (.s []) (.cons (.s []) (.cons (.s [117,64,97]) (.cons (.s []) (.cons (.i .i64 (-1)) (.cons (.i .i64 (-1)) (.cons (.i .i64 (-1)) (.cons (.i .i64 (-1)) (.cons (.i .i64 (-1)) (.cons (.i .i64 (-1)) (.cons (.s []) (.cons (.s []) (.cons (.b false) (.cons (.b false) (.cons (.sn) (.nil)))))))))))))))))) (.nil)
noncomputable def y31_1 : AV := (.tu (.cons (.s [60,98,111,100,121,32,120,109,108,110,115,61,34,104,116,116,112,58,47,47,106,97,98,98,101,114,46,111,114,103,47,112,114,111,116,111,99,111,108,47,104,116,116,112,98,105,110,100,34,32,114,105,100,61,34,49,48,34,32,102,114,111,109,61,34,117,64,97,34,47,62]) (.cons (.i .i64 0) (.nil))))
noncomputable def x31_2 : AV := .cons (.ag (.cons (.i .i64 10) (.cons (.s []) (.cons (.s [97]) (.cons (.s [117,64,97]) (.cons (.s []) (.cons (.i .i64 (-1)) (.cons (.i .i64 1) (.cons (.i .i64 (-1)) (.cons (.i .i64 (-1)) (.cons (.i .i64 (-1)) (.cons (.i .i64 (-1)) (.cons (.s []) (.cons (.s []) (.cons (.b false) (.cons (.b false) (.cons (.sn) (.nil)))))))))))))))))) (.nil)
noncomputable def y31_2 : AV := (.tu (.cons (.s [60,98,111,100,121,32,120,109,108,110,115,61,34,104,116,116,112,58,47,47,106,97,98,98,101,114,46,111,114,103,47,112,114,111,116,111,99,111,108,47,104,116,116,112,98,105,110,100,34,32,114,105,100,61,34,49,48,34,32,116,111,61,34,97,34,32,102,114,111,109,61,34,117,64,97,34,32,104,111,108,100,61,34,49,34,47,62]) (.cons (.i .i64 0) (.nil))))
noncomputable def x31_3 : AV := .cons (.ag (.cons (.i .i64 10) (.cons (.s []) (.cons (.s [97]) (.cons (.s [118,64,97]) (.cons (.s []) (.cons (.i .i64 (-1)) (.cons (.i .i64 (-1)) (.cons (.i .i64 (-1)) (.cons (.i .i64 (-1)) (.cons (.i .i64 (-1)) (.cons (.i .i64 (-1)) (.cons (.s []) (.cons (.s []) (.cons (.b false) (.cons (.b false) (.cons (.sn) (.nil)))))))))))))))))) (.nil)
noncomputable def y31_3 : AV := (.tu (.cons (.s [60,98,111,100,121,32,120,109,108,110,115,61,34,104,116,116,112,58,47,47,106,97,98,98,101,114,46,111,114,103,47,112,114,111,116,111,99,111,108,47,104,116,116,112,98,105,110,100,34,32,114,105,100,61,34,49,48,34,32,116,111,61,34,97,34,32,102,114,111,109,61,34,118,64,97,34,47,62]) (.cons (.i .i64 0) (.nil))))
noncomputable def x31_4 : AV := .cons (.ag (.cons (.i .i64 10) (.cons (.s []) (.cons (.s [98]) (.cons (.s [117,64,97]) (.cons (.s []) (.cons (.i .i64 (-1)) (.cons (.i .i64 (-1)) (.cons (.i .i64 (-1)) (.cons (.i .i64 (-1)) (.cons (.i .i64 (-1)) (.cons (.i .i64 (-1)) (.cons (.s []) (.cons (.s []) (.cons (.b false) (.cons (.b false) (.cons (.sn) (.nil)))))))))))))))))) (.nil)
noncomputable def y31_4 : AV := (.tu (.cons (.s [60,98,111,100,121,32,120,109,108,110,115,61,34,104,116,116,112,58,47,47,106,97,98,98,101,114,46,111,114,103,47,112,114,111,116,111,99,111,108,47,104,116,116,112,98,105,110,100,34,32,114,105,100,61,34,49,48,34,32,116,111,61,34,98,34,32,102,114,111,109,61,34,117,64,97,34,47,62]) (.cons (.i .i64 0) (.nil))))
noncomputable def x31_5 : AV := .cons (.ag (.cons (.i .i64 10) (.cons (.s []) (.cons (.s [99]) (.cons (.s [117,64,97]) (.cons (.s []) (.cons (.i .i64 (-1)) (.cons (.i .i64 (-1)) (.cons (.i .i64 (-1)) (.cons (.i .i64 (-1)) (.cons (.i .i64 (-1)) (.cons (.i .i64 (-1)) (.cons (.s []) (.cons (.s []) (.cons (.b false) (.cons (.b false) (.cons (.sn) (.nil)))))))))))))))))) (.nil)
noncomputable def y31_5 : AV := (.tu (.cons (.s [60,98,111,100,121,32,120,109,108,110,115,61,34,104,116,116,112,58,47,47,106,97,98,98,101,114,46,111,114,103,47,112,114,111,116,111,99,111,108,47,104,116,116,112,98,105,110,100,34,32,114,105,100,61,34,49,48,34,32,116,111,61,34,99,34,32,102,114,111,109,61,34,117,64,97,34,47,62]) (.cons (.i .i64 0) (.nil))))
noncomputable def x31_6 : AV := .cons (.ag (.cons (.i .i64 11) (.cons (.s [48,48,48,48,48,48,48,48,48,48,48,48,48,48,102,102]) (.cons (.s []) (.cons (.s []) (.cons (.s []) (.cons (.i .i64 (-1)) (.cons (.i .i64 (-1)) (.cons (.i .i64 (-1)) (.cons (.i .i64 (-1)) (.cons (.i .i64 (-1)) (.cons (.i .i64 (-1)) (.cons (.s []) (.cons (.s []) (.cons (.b false) (.cons (.b false) (.cons (.sn) (.nil)))))))))))))))))) (.nil)
noncomputable def y31_6 : AV := (.tu (.cons (.s [60,98,111,100,121,32,120,109,108,110,115,61,34,104,116,116,112,58,47,47,106,97,98,98,101,114,46,111,114,103,47,112,114,111,116,111,99,111,108,47,104,116,116,112,98,105,110,100,34,32,114,105,100,61,34,49,49,34,32,115,105,100,61,34,48,48,48,48,48,48,48,48,48,48,48,48,48,48,102,102,34,47,62]) (.cons (.i .i64 0) (.nil))))
theorem qg31_0 : (known tab3 100 25 x31_0 y31_0 && (known tab3 100 25 x31_1 y31_1 && (known tab3 100 25 x31_2 y31_2 && (known tab3 100 25 x31_3 y31_3 && (known tab3 100 25 x31_4 y31_4 && (known tab3 100 25 x31_5 y31_5 && (known tab3 100 25 x31_6 y31_6))))))) = true := by kernel_rfl
theorem q31_0 : known tab3 100 25 x31_0 y31_0 = true := and_l qg31_0
theorem q31_1 : known tab3 100 25 x31_1 y31_1 = true := and_l (and_r qg31_0)
theorem q31_2 : known tab3 100 25 x31_2 y31_2 = true := and_l (and_r (and_r qg31_0))
theorem q31_3 : known tab3 100 25 x31_3 y31_3 = true := and_l (and_r (and_r (and_r qg31_0)))
theorem q31_4 : known tab3 100 25 x31_4 y31_4 = true := and_l (and_r (and_r (and_r (and_r qg31_0))))
theorem q31_5 : known tab3 100 25 x31_5 y31_5 = true := and_l (and_r (and_r (and_r (and_r (and_r qg31_0)))))
theorem q31_6 : known tab3 100 25 x31_6 y31_6 = true := (and_r (and_r (and_r (and_r (and_r (and_r qg31_0))))))
noncomputable def m31 : MTree := .node (.node (.node (.leaf) 9000315003978025659094482202023234558114831 x31_0 y31_0 (.leaf)) 152776601586620012466015558253049939254401794132808 x31_1 y31_1 (.node (.leaf) 39263544473541545208401921836453704599376578889935082 x31_2 y31_2 (.leaf))) 39263544474135996908420171692452566846058274301282571 x31_3 y31_3 (.node (.node (.leaf) 39263544626315632113092134828161301996572299606239755 x31_4 y31_4 (.leaf)) 39263544779089719017782347819868899393768020322544428 x31_5 y31_5 (.node (.leaf) 3259769541719917759306127179212440950039219212519460961929190983338615848685433644 x31_6 y31_6 (.leaf)))
theorem k31 : m31.all (known tab3 100 25) = true := MTree.all_node (MTree.all_node (MTree.all_node (rfl) q31_0 (rfl)) q31_1 (MTree.all_node (rfl) q31_2 (rfl))) q31_3 (MTree.all_node (MTree.all_node (rfl) q31_4 (rfl)) q31_5 (MTree.all_node (rfl) q31_6 (rfl)))
noncomputable def g31 : Ent Tryz.prog 9 := e25.memo m31 (by kernel_rfl) Tryz.call25 k31
end Go.Proofs.YtafoemfdchegkaaGreatDoor
end
section
namespace Go.Proofs.YtafoemfdchegkaaGreatDoor
open Go.Proofs.YtafoemfdchegkaaGreatDoor.Clo Go.RowKit
set_option maxRecDepth 1000000
set_option maxHeartbeats 0
noncomputable def x32_0 : AV := .cons (.ag (.cons (.s []) (.cons (.s []) (.cons (.s []) (.cons (.i .i64 (-1)) (.cons (.i .i64 (-1)) (.cons (.i .i64 (-1)) (.cons (.i .i64 (-1)) (.cons (.i .i64 (-1)) (.cons (.i .i64 (-1)) (.cons (.i .i64 (-1)) (.cons (.i .i64 (-1)) (.cons (.i .i64 (-1)) (.cons (.b false) (.cons (.i .u8 0) (.cons (.sn) (.nil))))))))))))))))) (.nil)
noncomputable def y32_0 : AV := (.tu (.cons (.s [60,98,111,100,121,32,120,109,108,110,115,61,34,104,116,116,112,58,47,47,106,97,98,98,101,114,46,111,114,103,47,112,114,111,116,111,99,111,108,47,104,116,116,112,98,105,110,100,34,47,62]) (.cons (.i .i64 0) (.nil))))
noncomputable def x32_1 : AV := .cons (.ag (.cons (.s []) (.cons (.s []) (.cons (.s []) (.cons (.i .i64 (-1)) (.cons (.i .i64 (-1)) (.cons (.i .i64 (-1)) (.cons (.i .i64 (-1)) (.cons (.i .i64 (-1)) (.cons (.i .i64 (-1)) (.cons (.i .i64 (-1)) (.cons (.i .i64 (-1)) (.cons (.i .i64 (-1)) (.cons (.b true) (.cons (.i .u8 1) (.cons (.sn) (.nil))))))))))))))))) (.nil)
noncomputable def y32_1 : AV := (.tu (.cons (.s [60,98,111,100,121,32,120,109,108,110,115,61,34,104,116,116,112,58,47,47,106,97,98,98,101,114,46,111,114,103,47,112,114,111,116,111,99,111,108,47,104,116,116,112,98,105,110,100,34,32,116,121,112,101,61,34,116,101,114,109,105,110,97,116,101,34,32,99,111,110,100,105,116,105,111,110,61,34,98,97,100,45,114,101,113,117,101,115,116,34,47,62]) (.cons (.i .i64 0) (.nil))))
noncomputable def x32_2 : AV := .cons (.ag (.cons (.s []) (.cons (.s []) (.cons (.s []) (.cons (.i .i64 (-1)) (.cons (.i .i64 (-1)) (.cons (.i .i64 (-1)) (.cons (.i .i64 (-1)) (.cons (.i .i64 (-1)) (.cons (.i .i64 (-1)) (.cons (.i .i64 (-1)) (.cons (.i .i64 (-1)) (.cons (.i .i64 (-1)) (.cons (.b true) (.cons (.i .u8 2) (.cons (.sn) (.nil))))))))))))))))) (.nil)
noncomputable def y32_2 : AV := (.tu (.cons (.s [60,98,111,100,121,32,120,109,108,110,115,61,34,104,116,116,112,58,47,47,106,97,98,98,101,114,46,111,114,103,47,112,114,111,116,111,99,111,108,47,104,116,116,112,98,105,110,100,34,32,116,121,112,101,61,34,116,101,114,109,105,110,97,116,101,34,32,99,111,110,100,105,116,105,111,110,61,34,104,111,115,116,45,117,110,107,110,111,119,110,34,47,62]) (.cons (.i .i64 0) (.nil))))
noncomputable def x32_3 : AV := .cons (.ag (.cons (.s []) (.cons (.s []) (.cons (.s []) (.cons (.i .i64 (-1)) (.cons (.i .i64 (-1)) (.cons (.i .i64 (-1)) (.cons (.i .i64 (-1)) (.cons (.i .i64 (-1)) (.cons (.i .i64 (-1)) (.cons (.i .i64 (-1)) (.cons (.i .i64 (-1)) (.cons (.i .i64 (-1)) (.cons (.b true) (.cons (.i .u8 3) (.cons (.sn) (.nil))))))))))))))))) (.nil)
noncomputable def y32_3 : AV := (.tu (.cons (.s [60,98,111,100,121,32,120,109,108,110,115,61,34,104,116,116,112,58,47,47,106,97,98,98,101,114,46,111,114,103,47,112,114,111,116,111,99,111,108,47,104,116,116,112,98,105,110,100,34,32,116,121,112,101,61,34,116,101,114,109,105,110,97,116,101,34,32,99,111,110,100,105,116,105,111,110,61,34,105,109,112,114,111,112,101,114,45,97,100,100,114,101,115,115,105,110,103,34,47,62]) (.cons (.i .i64 0) (.nil))))
noncomputable def x32_4 : AV := .cons (.ag (.cons (.s []) (.cons (.s []) (.cons (.s []) (.cons (.i .i64 (-1)) (.cons (.i .i64 (-1)) (.cons (.i .i64 (-1)) (.cons (.i .i64 (-1)) (.cons (.i .i64 (-1)) (.cons (.i .i64 (-1)) (.cons (.i .i64 (-1)) (.cons (.i .i64 (-1)) (.cons (.i .i64 (-1)) (.cons (.b true) (.cons (.i .u8 4) (.cons (.sn) (.nil))))))))))))))))) (.nil)
noncomputable def y32_4 : AV := (.tu (.cons (.s [60,98,111,100,121,32,120,109,108,110,115,61,34,104,116,116,112,58,47,47,106,97,98,98,101,114,46,111,114,103,47,112,114,111,116,111,99,111,108,47,104,116,116,112,98,105,110,100,34,32,116,121,112,101,61,34,116,101,114,109,105,110,97,116,101,34,32,99,111,110,100,105,116,105,111,110,61,34,105,110,116,101,114,110,97,108,45,115,101,114,118,101,114,45,101,114,114,111,114,34,47,62]) (.cons (.i .i64 0) (.nil))))
noncomputable def x32_5 : AV := .cons (.ag (.cons (.s []) (.cons (.s []) (.cons (.s []) (.cons (.i .i64 (-1)) (.cons (.i .i64 (-1)) (.cons (.i .i64 (-1)) (.cons (.i .i64 (-1)) (.cons (.i .i64 (-1)) (.cons (.i .i64 (-1)) (.cons (.i .i64 (-1)) (.cons (.i .i64 (-1)) (.cons (.i .i64 (-1)) (.cons (.b true) (.cons (.i .u8 5) (.cons (.sn) (.nil))))))))))))))))) (.nil)
noncomputable def y32_5 : AV := (.tu (.cons (.s [60,98,111,100,121,32,120,109,108,110,115,61,34,104,116,116,112,58,47,47,106,97,98,98,101,114,46,111,114,103,47,112,114,111,116,111,99,111,108,47,104,116,116,112,98,105,110,100,34,32,116,121,112,101,61,34,116,101,114,109,105,110,97,116,101,34,32,99,111,110,100,105,116,105,111,110,61,34,105,116,101,109,45,110,111,116,45,102,111,117,110,100,34,47,62]) (.cons (.i .i64 0) (.nil))))
theorem qg32_0 : (known tab3 100 298 x32_0 y32_0 && (known tab3 100 298 x32_1 y32_1 && (known tab3 100 298 x32_2 y32_2 && (known tab3 100 298 x32_3 y32_3 && (known tab3 100 298 x32_4 y32_4 && (known tab3 100 298 x32_5 y32_5)))))) = true := by kernel_rfl
theorem q32_0 : known tab3 100 298 x32_0 y32_0 = true := and_l qg32_0
theorem q32_1 : known tab3 100 298 x32_1 y32_1 = true := and_l (and_r qg32_0)
theorem q32_2 : known tab3 100 298 x32_2 y32_2 = true := and_l (and_r (and_r qg32_0))
theorem q32_3 : known tab3 100 298 x32_3 y32_3 = true := and_l (and_r (and_r (and_r qg32_0)))
theorem q32_4 : known tab3 100 298 x32_4 y32_4 = true := and_l (and_r (and_r (and_r (and_r qg32_0))))
theorem q32_5 : known tab3 100 298 x32_5 y32_5 = true := (and_r (and_r (and_r (and_r (and_r qg32_0)))))
noncomputable def m32 : MTree := .node (.node (.node (.leaf) 12000363004944039927211746770611949235384249860330612919797157 x32_0 y32_0 (.leaf)) 12000363004944039927211746770611949235384249860330612920797161 x32_1 y32_1 (.node (.leaf) 12000363004944039927211746770611949235384249860330612920797162 x32_2 y32_2 (.leaf))) 12000363004944039927211746770611949235384249860330612920797163 x32_3 y32_3 (.node (.node (.leaf) 12000363004944039927211746770611949235384249860330612920797164 x32_4 y32_4 (.leaf)) 12000363004944039927211746770611949235384249860330612920797165 x32_5 y32_5 (.leaf))
theorem k32 : m32.all (known tab3 100 298) = true := MTree.all_node (MTree.all_node (MTree.all_node (rfl) q32_0 (rfl)) q32_1 (MTree.all_node (rfl) q32_2 (rfl))) q32_3 (MTree.all_node (MTree.all_node (rfl) q32_4 (rfl)) q32_5 (rfl))
noncomputable def g32 : Ent Tryz.prog 9 := e298.memo m32 (by kernel_rfl) Tryz.call298 k32
end Go.Proofs.YtafoemfdchegkaaGreatDoor
end
section
namespace Go.Proofs.YtafoemfdchegkaaGreatDoor
open Go.Proofs.YtafoemfdchegkaaGreatDoor.Clo Go.RowKit
set_option maxRecDepth 1000000
set_option maxHeartbeats 0
noncomputable def tab4 : FTree Tryz.prog 9 := .node (.node (.node (.node (.node (.node (.node (.node (.node (.leaf) (e3) (.leaf)) (e4) (.node (.leaf) (e5) (.leaf))) (e6) (.node (.node (.leaf) (e7) (.leaf)) (e8) (.leaf))) (e9) (.node (.node (.node (.leaf) (e10) (.leaf)) (e11) (.leaf)) (e12) (.node (.node (.leaf) (e13) (.leaf)) (e14) (.leaf)))) (e15) (.node (.node (.node (.node (.leaf) (e16) (.leaf)) (e17) (.node (.leaf) (e18) (.leaf))) (e19) (.node (.node (.leaf) (e20) (.leaf)) (e21) (.leaf))) (e22) (.node (.node (.node (.leaf) (e23) (.leaf)) (e24) (.leaf)) (g31) (.node (.node (.leaf) (e26) (.leaf)) (e27) (.leaf))))) (e28) (.node (.node (.node (.node (.node (.leaf) (e29) (.leaf)) (g17) (.node (.leaf) (e31) (.leaf))) (e32) (.node (.node (.leaf) (e33) (.leaf)) (e34) (.leaf))) (e35) (.node (.node (.node (.leaf) (e36) (.leaf)) (e37) (.leaf)) (e38) (.node (.node (.leaf) (e39) (.leaf)) (e40) (.leaf)))) (e41) (.node (.node (.node (.node (.leaf) (e42) (.leaf)) (e43) (.node (.leaf) (e44) (.leaf))) (e45) (.node (.node (.leaf) (e46) (.leaf)) (e47) (.leaf))) (e48) (.node (.node (.node (.leaf) (g19) (.leaf)) (e50) (.leaf)) (e51) (.node (.node (.leaf) (e52) (.leaf)) (e53) (.leaf)))))) (e54) (.node (.node (.node (.node (.node (.node (.leaf) (e55) (.leaf)) (e56) (.node (.leaf) (e57) (.leaf))) (g27) (.node (.node (.leaf) (e59) (.leaf)) (e60) (.leaf))) (e61) (.node (.node (.node (.leaf) (e62) (.leaf)) (e65) (.leaf)) (e66) (.node (.node (.leaf) (e67) (.leaf)) (e68) (.leaf)))) (e70) (.node (.node (.node (.node (.leaf) (e71) (.leaf)) (e72) (.node (.leaf) (e73) (.leaf))) (e74) (.node (.node (.leaf) (e75) (.leaf)) (e76) (.leaf))) (e79) (.node (.node (.node (.leaf) (e81) (.leaf)) (e82) (.leaf)) (e83) (.node (.node (.leaf) (e84) (.leaf)) (e85) (.leaf))))) (e86) (.node (.node (.node (.node (.node (.leaf) (e88) (.leaf)) (e89) (.node (.leaf) (e90) (.leaf))) (e91) (.node (.node (.leaf) (e92) (.leaf)) (e93) (.leaf))) (e94) (.node (.node (.node (.leaf) (e95) (.leaf)) (e96) (.leaf)) (e97) (.node (.node (.leaf) (e98) (.leaf)) (e100) (.leaf)))) (e101) (.node (.node (.node (.node (.leaf) (g14) (.leaf)) (e103) (.node (.leaf) (e104) (.leaf))) (e105) (.node (.node (.leaf) (e106) (.leaf)) (e107) (.leaf))) (e108) (.node (.node (.node (.leaf) (e109) (.leaf)) (e110) (.leaf)) (e111) (.node (.node (.leaf) (e112) (.leaf)) (e113) (.leaf))))))) (e114) (.node (.node (.node (.node (.node (.node (.node (.leaf) (e115) (.leaf)) (e116) (.node (.leaf) (e118) (.leaf))) (e119) (.node (.node (.leaf) (e120) (.leaf)) (e121) (.leaf))) (e122) (.node (.node (.node (.leaf) (e123) (.leaf)) (e124) (.leaf)) (e125) (.node (.node (.leaf) (e126) (.leaf)) (e127) (.leaf)))) (e128) (.node (.node (.node (.node (.leaf) (e129) (.leaf)) (e130) (.node (.leaf) (e131) (.leaf))) (e132) (.node (.node (.leaf) (e133) (.leaf)) (e134) (.leaf))) (e135) (.node (.node (.node (.leaf) (e136) (.leaf)) (e137) (.leaf)) (e138) (.node (.node (.leaf) (e139) (.leaf)) (e140) (.leaf))))) (e141) (.node (.node (.node (.node (.node (.leaf) (e142) (.leaf)) (e143) (.node (.leaf) (e144) (.leaf))) (e145) (.node (.node (.leaf) (e147) (.leaf)) (e148) (.leaf))) (e149) (.node (.node (.node (.leaf) (e150) (.leaf)) (e151) (.leaf)) (e152) (.node (.node (.leaf) (e153) (.leaf)) (e154) (.leaf)))) (g28) (.node (.node (.node (.node (.leaf) (e156) (.leaf)) (e157) (.node (.leaf) (e158) (.leaf))) (g24) (.node (.node (.leaf) (g25) (.leaf)) (e164) (.leaf))) (e165) (.node (.node (.node (.leaf) (e166) (.leaf)) (e167) (.leaf)) (e168) (.node (.node (.leaf) (e169) (.leaf)) (g15) (.leaf)))))) (e172) (.node (.node (.node (.node (.node (.node (.leaf) (g5) (.leaf)) (g20) (.node (.leaf) (e175) (.leaf))) (e176) (.node (.node (.leaf) (e179) (.leaf)) (e180) (.leaf))) (e181) (.node (.node (.node (.leaf) (e182) (.leaf)) (e184) (.leaf)) (e185) (.node (.node (.leaf) (e187) (.leaf)) (e190) (.leaf)))) (e191) (.node (.node (.node (.node (.leaf) (g13) (.leaf)) (g29) (.node (.leaf) (g30) (.leaf))) (e195) (.node (.node (.leaf) (e196) (.leaf)) (g11) (.leaf))) (e198) (.node (.node (.node (.leaf) (e199) (.leaf)) (e200) (.leaf)) (e201) (.node (.node (.leaf) (e202) (.leaf)) (e204) (.leaf))))) (e205) (.node (.node (.node (.node (.node (.leaf) (e206) (.leaf)) (e209) (.node (.leaf) (e210) (.leaf))) (e211) (.node (.node (.leaf) (e212) (.leaf)) (e213) (.leaf))) (e214) (.node (.node (.node (.leaf) (e215) (.leaf)) (e216) (.leaf)) (e217) (.node (.node (.leaf) (e218) (.leaf)) (e219) (.leaf)))) (e220) (.node (.node (.node (.node (.leaf) (e225) (.leaf)) (e227) (.leaf)) (e228) (.node (.node (.leaf) (e229) (.leaf)) (e230) (.leaf))) (e231) (.node (.node (.node (.leaf) (e232) (.leaf)) (e233) (.leaf)) (g9) (.node (.node (.leaf) (g8) (.leaf)) (g7) (.leaf)))))))) (e237) (.node (.node (.node (.node (.node (.node (.node (.node (.leaf) (e238) (.leaf)) (e240) (.node (.leaf) (e241) (.leaf))) (e242) (.node (.node (.leaf) (e243) (.leaf)) (e244) (.leaf))) (e245) (.node (.node (.node (.leaf) (e246) (.leaf)) (e247) (.leaf)) (g1) (.node (.node (.leaf) (e251) (.leaf)) (e252) (.leaf)))) (e255) (.node (.node (.node (.node (.leaf) (e256) (.leaf)) (e257) (.node (.leaf) (e258) (.leaf))) (e259) (.node (.node (.leaf) (e260) (.leaf)) (e261) (.leaf))) (e262) (.node (.node (.node (.leaf) (e263) (.leaf)) (e264) (.leaf)) (e265) (.node (.node (.leaf) (e266) (.leaf)) (e267) (.leaf))))) (g16) (.node (.node (.node (.node (.node (.leaf) (e269) (.leaf)) (e270) (.node (.leaf) (e271) (.leaf))) (e272) (.node (.node (.leaf) (e273) (.leaf)) (e274) (.leaf))) (e275) (.node (.node (.node (.leaf) (e276) (.leaf)) (e279) (.leaf)) (e280) (.node (.node (.leaf) (g21) (.leaf)) (e282) (.leaf)))) (e283) (.node (.node (.node (.node (.leaf) (e284) (.leaf)) (e287) (.node (.leaf) (e288) (.leaf))) (e289) (.node (.node (.leaf) (e290) (.leaf)) (e291) (.leaf))) (e292) (.node (.node (.node (.leaf) (e293) (.leaf)) (e297) (.leaf)) (g32) (.node (.node (.leaf) (g12) (.leaf)) (e300) (.leaf)))))) (g10) (.node (.node (.node (.node (.node (.node (.leaf) (g18) (.leaf)) (e303) (.node (.leaf) (e305) (.leaf))) (e306) (.node (.node (.leaf) (e307) (.leaf)) (e308) (.leaf))) (e309) (.node (.node (.node (.leaf) (e310) (.leaf)) (e312) (.leaf)) (e313) (.node (.node (.leaf) (e314) (.leaf)) (e315) (.leaf)))) (e316) (.node (.node (.node (.node (.leaf) (e317) (.leaf)) (e318) (.node (.leaf) (e319) (.leaf))) (e326) (.node (.node (.leaf) (e327) (.leaf)) (e328) (.leaf))) (e329) (.node (.node (.node (.leaf) (e330) (.leaf)) (e331) (.leaf)) (e332) (.node (.node (.leaf) (e333) (.leaf)) (e334) (.leaf))))) (e335) (.node (.node (.node (.node (.node (.leaf) (e336) (.leaf)) (e337) (.node (.leaf) (e338) (.leaf))) (e341) (.node (.node (.leaf) (e342) (.leaf)) (e343) (.leaf))) (e344) (.node (.node (.node (.leaf) (e345) (.leaf)) (e346) (.leaf)) (e349) (.node (.node (.leaf) (e354) (.leaf)) (e355) (.leaf)))) (e356) (.node (.node (.node (.node (.leaf) (e357) (.leaf)) (e358) (.node (.leaf) (e359) (.leaf))) (e360) (.node (.node (.leaf) (g26) (.leaf)) (e362) (.leaf))) (e363) (.node (.node (.node (.leaf) (g4) (.leaf)) (e365) (.leaf)) (e366) (.node (.node (.leaf) (e369) (.leaf)) (e372) (.leaf))))))) (e373) (.node (.node (.node (.node (.node (.node (.node (.leaf) (g3) (.leaf)) (e377) (.node (.leaf) (e378) (.leaf))) (e379) (.node (.node (.leaf) (e380) (.leaf)) (e381) (.leaf))) (e382) (.node (.node (.node (.leaf) (e386) (.leaf)) (e387) (.leaf)) (e388) (.node (.node (.leaf) (e389) (.leaf)) (e390) (.leaf)))) (e391) (.node (.node (.node (.node (.leaf) (e392) (.leaf)) (e402) (.node (.leaf) (e404) (.leaf))) (e405) (.node (.node (.leaf) (e406) (.leaf)) (e407) (.leaf))) (e408) (.node (.node (.node (.leaf) (e410) (.leaf)) (e414) (.leaf)) (e429) (.node (.node (.leaf) (e431) (.leaf)) (e432) (.leaf))))) (e433) (.node (.node (.node (.node (.node (.leaf) (e435) (.leaf)) (e436) (.node (.leaf) (e438) (.leaf))) (e439) (.node (.node (.leaf) (e440) (.leaf)) (e441) (.leaf))) (e442) (.node (.node (.node (.leaf) (e443) (.leaf)) (e444) (.leaf)) (e445) (.node (.node (.leaf) (e446) (.leaf)) (g6) (.leaf)))) (e448) (.node (.node (.node (.node (.leaf) (e449) (.leaf)) (e452) (.node (.leaf) (e456) (.leaf))) (e457) (.node (.node (.leaf) (g23) (.leaf)) (e459) (.leaf))) (e462) (.node (.node (.node (.leaf) (e463) (.leaf)) (e464) (.leaf)) (e465) (.node (.node (.leaf) (e468) (.leaf)) (e476) (.leaf)))))) (e478) (.node (.node (.node (.node (.node (.node (.leaf) (e479) (.leaf)) (e481) (.node (.leaf) (e482) (.leaf))) (e483) (.node (.node (.leaf) (e485) (.leaf)) (e486) (.leaf))) (e508) (.node (.node (.node (.leaf) (e509) (.leaf)) (e510) (.leaf)) (e512) (.node (.node (.leaf) (e513) (.leaf)) (e514) (.leaf)))) (g22) (.node (.node (.node (.node (.leaf) (e517) (.leaf)) (e518) (.node (.leaf) (e519) (.leaf))) (e520) (.node (.node (.leaf) (e521) (.leaf)) (e522) (.leaf))) (e523) (.node (.node (.node (.leaf) (e524) (.leaf)) (e525) (.leaf)) (e526) (.node (.node (.leaf) (e527) (.leaf)) (e529) (.leaf))))) (e533) (.node (.node (.node (.node (.node (.leaf) (e538) (.leaf)) (e539) (.node (.leaf) (e540) (.leaf))) (e566) (.node (.node (.leaf) (e567) (.leaf)) (e570) (.leaf))) (e571) (.node (.node (.node (.leaf) (e572) (.leaf)) (e573) (.leaf)) (e575) (.node (.node (.leaf) (e576) (.leaf)) (e577) (.leaf)))) (e618) (.node (.node (.node (.node (.leaf) (e619) (.leaf)) (g2) (.leaf)) (e626) (.node (.node (.leaf) (e654) (.leaf)) (e659) (.leaf))) (e735) (.node (.node (.node (.leaf) (e736) (.leaf)) (e737) (.leaf)) (e738) (.node (.node (.leaf) (e739) (.leaf)) (e740) (.leaf))))))))
end Go.Proofs.YtafoemfdchegkaaGreatDoor
end
section
namespace Go.Proofs.YtafoemfdchegkaaGreatDoor
open Go.Proofs.YtafoemfdchegkaaGreatDoor.Clo Go.RowKit
set_option maxRecDepth 1000000
set_option maxHeartbeats 0
noncomputable def x33_0 : AV := .cons (.s [120]) (.nil)
noncomputable def y33_0 : AV := (.tu (.cons (.ag (.cons (.i .i64 0) (.cons (.s []) (.cons (.s []) (.cons (.s []) (.cons (.s []) (.cons (.i .i64 0) (.cons (.i .i64 0) (.cons (.i .i64 0) (.cons (.i .i64 0) (.cons (.i .i64 0) (.cons (.i .i64 0) (.cons (.s []) (.cons (.s []) (.cons (.b false) (.cons (.b false) (.cons (.sn) (.nil)))))))))))))))))) (.cons (.i .i64 80) (.nil))))
noncomputable def x33_1 : AV := .cons (.s [60,98,111,100,121,32,120,109,108,110,115,61,34,104,116,116,112,58,47,47,106,97,98,98,101,114,46,111,114,103,47,112,114,111,116,111,99,111,108,47,104,116,116,112,98,105,110,100,34,32,114,105,100,61,34,49,48,34,32,102,114,111,109,61,34,117,64,97,34,47,62]) (.nil)
noncomputable def y33_1 : AV := (.tu (.cons (.ag (.cons (.i .i64 10) (.cons (.s []) (.cons (.s []) (.cons (.s [117,64,97]) (.cons (.s []) (.cons (.i .i64 (-1)) (.cons (.i .i64 (-1)) (.cons (.i .i64 (-1)) (.cons (.i .i64 (-1)) (.cons (.i .i64 (-1)) (.cons (.i .i64 (-1)) (.cons (.s []) (.cons (.s []) (.cons (.b false) (.cons (.b false) (.cons (.sn) (.nil)))))))))))))))))) (.cons (.i .i64 0) (.nil))))
noncomputable def x33_2 : AV := .cons (.s [60,98,111,100,121,32,120,109,108,110,115,61,34,104,116,116,112,58,47,47,106,97,98,98,101,114,46,111,114,103,47,112,114,111,116,111,99,111,108,47,104,116,116,112,98,105,110,100,34,32,114,105,100,61,34,49,48,34,32,116,111,61,34,97,34,32,102,114,111,109,61,34,118,64,97,34,47,62]) (.nil)
noncomputable def y33_2 : AV := (.tu (.cons (.ag (.cons (.i .i64 10) (.cons (.s []) (.cons (.s [97]) (.cons (.s [118,64,97]) (.cons (.s []) (.cons (.i .i64 (-1)) (.cons (.i .i64 (-1)) (.cons (.i .i64 (-1)) (.cons (.i .i64 (-1)) (.cons (.i .i64 (-1)) (.cons (.i .i64 (-1)) (.cons (.s []) (.cons (.s []) (.cons (.b false) (.cons (.b false) (.cons (.sn) (.nil)))))))))))))))))) (.cons (.i .i64 0) (.nil))))
noncomputable def x33_3 : AV := .cons (.s [60,98,111,100,121,32,120,109,108,110,115,61,34,104,116,116,112,58,47,47,106,97,98,98,101,114,46,111,114,103,47,112,114,111,116,111,99,111,108,47,104,116,116,112,98,105,110,100,34,32,114,105,100,61,34,49,48,34,32,116,111,61,34,98,34,32,102,114,111,109,61,34,117,64,97,34,47,62]) (.nil)
noncomputable def y33_3 : AV := (.tu (.cons (.ag (.cons (.i .i64 10) (.cons (.s []) (.cons (.s [98]) (.cons (.s [117,64,97]) (.cons (.s []) (.cons (.i .i64 (-1)) (.cons (.i .i64 (-1)) (.cons (.i .i64 (-1)) (.cons (.i .i64 (-1)) (.cons (.i .i64 (-1)) (.cons (.i .i64 (-1)) (.cons (.s []) (.cons (.s []) (.cons (.b false) (.cons (.b false) (.cons (.sn) (.nil)))))))))))))))))) (.cons (.i .i64 0) (.nil))))
noncomputable def x33_4 : AV := .cons (.s [60,98,111,100,121,32,120,109,108,110,115,61,34,104,116,116,112,58,47,47,106,97,98,98,101,114,46,111,114,103,47,112,114,111,116,111,99,111,108,47,104,116,116,112,98,105,110,100,34,32,114,105,100,61,34,49,48,34,32,116,111,61,34,99,34,32,102,114,111,109,61,34,117,64,97,34,47,62]) (.nil)
noncomputable def y33_4 : AV := (.tu (.cons (.ag (.cons (.i .i64 10) (.cons (.s []) (.cons (.s [99]) (.cons (.s [117,64,97]) (.cons (.s []) (.cons (.i .i64 (-1)) (.cons (.i .i64 (-1)) (.cons (.i .i64 (-1)) (.cons (.i .i64 (-1)) (.cons (.i .i64 (-1)) (.cons (.i .i64 (-1)) (.cons (.s []) (.cons (.s []) (.cons (.b false) (.cons (.b false) (.cons (.sn) (.nil)))))))))))))))))) (.cons (.i .i64 0) (.nil))))
noncomputable def x33_5 : AV := .cons (.s [60,98,111,100,121,32,120,109,108,110,115,61,34,104,116,116,112,58,47,47,106,97,98,98,101,114,46,111,114,103,47,112,114,111,116,111,99,111,108,47,104,116,116,112,98,105,110,100,34,32,114,105,100,61,34,49,49,34,32,115,105,100,61,34,48,48,48,48,48,48,48,48,48,48,48,48,48,48,102,102,34,47,62]) (.nil)
noncomputable def y33_5 : AV := (.tu (.cons (.ag (.cons (.i .i64 11) (.cons (.s [48,48,48,48,48,48,48,48,48,48,48,48,48,48,102,102]) (.cons (.s []) (.cons (.s []) (.cons (.s []) (.cons (.i .i64 (-1)) (.cons (.i .i64 (-1)) (.cons (.i .i64 (-1)) (.cons (.i .i64 (-1)) (.cons (.i .i64 (-1)) (.cons (.i .i64 (-1)) (.cons (.s []) (.cons (.s []) (.cons (.b false) (.cons (.b false) (.cons (.sn) (.nil)))))))))))))))))) (.cons (.i .i64 0) (.nil))))
noncomputable def x33_6 : AV := .cons (.s [60,98,111,100,121,32,120,109,108,110,115,61,34,104,116,116,112,58,47,47,106,97,98,98,101,114,46,111,114,103,47,112,114,111,116,111,99,111,108,47,104,116,116,112,98,105,110,100,34,32,114,105,100,61,34,49,48,34,32,116,111,61,34,97,34,32,102,114,111,109,61,34,117,64,97,34,32,104,111,108,100,61,34,49,34,47,62]) (.nil)
noncomputable def y33_6 : AV := (.tu (.cons (.ag (.cons (.i .i64 10) (.cons (.s []) (.cons (.s [97]) (.cons (.s [117,64,97]) (.cons (.s []) (.cons (.i .i64 (-1)) (.cons (.i .i64 1) (.cons (.i .i64 (-1)) (.cons (.i .i64 (-1)) (.cons (.i .i64 (-1)) (.cons (.i .i64 (-1)) (.cons (.s []) (.cons (.s []) (.cons (.b false) (.cons (.b false) (.cons (.sn) (.nil)))))))))))))))))) (.cons (.i .i64 0) (.nil))))
theorem qg33_0 : (known tab4 100 187 x33_0 y33_0 && (known tab4 100 187 x33_1 y33_1 && (known tab4 100 187 x33_2 y33_2 && (known tab4 100 187 x33_3 y33_3 && (known tab4 100 187 x33_4 y33_4 && (known tab4 100 187 x33_5 y33_5 && (known tab4 100 187 x33_6 y33_6))))))) = true := by kernel_rfl
theorem q33_0 : known tab4 100 187 x33_0 y33_0 = true := and_l qg33_0
theorem q33_1 : known tab4 100 187 x33_1 y33_1 = true := and_l (and_r qg33_0)
theorem q33_2 : known tab4 100 187 x33_2 y33_2 = true := and_l (and_r (and_r qg33_0))
theorem q33_3 : known tab4 100 187 x33_3 y33_3 = true := and_l (and_r (and_r (and_r qg33_0)))
theorem q33_4 : known tab4 100 187 x33_4 y33_4 = true := and_l (and_r (and_r (and_r (and_r qg33_0))))
theorem q33_5 : known tab4 100 187 x33_5 y33_5 = true := and_l (and_r (and_r (and_r (and_r (and_r qg33_0)))))
theorem q33_6 : known tab4 100 187 x33_6 y33_6 = true := (and_r (and_r (and_r (and_r (and_r (and_r qg33_0))))))
noncomputable def m33 : MTree := .node (.node (.node (.leaf) 635 x33_0 y33_0 (.leaf)) 2852847881580960581525711921220629953057116394257732863520183887578420165753617962160638888403373353103631041458779543077990368443320027032666578124293341093931553516691584 x33_1 y33_1 (.node (.leaf) 211256693598115704569456799021373418702659043431110400541623512501580148278419833149933669351370392296728037618463761857043452502599053281404370946488941745914835255175488131974838766047597 x33_2 y33_2 (.leaf))) 211256693598115704569456799021373418702659043431110400541623512501580148278419833149933669351370392296728037618463761857043452502599053281404370946488941751398409483138379025305308045089389 x33_3 y33_3 (.node (.node (.leaf) 211256693598115704569456799021373418702659043431110400541623512501580148278419833149933669351370392296728037618463761857043452502599053281404370946488941756881983711101269918636898479024238 x33_4 y33_4 (.leaf)) 236851475718570829293281543735389457502842183519540499466004344035865793686605990696161666508279270731834259627142211893463467712753500596717624203089253571222234592747875284818510717622086606226172271 x33_5 y33_5 (.node (.leaf) 1033257552255435448813964482705223484563596398978205434041200256593885407366191304561286654453201340009492566061157195602904543271706316560330407354257095630007190803899263565726524510968568834906459680537241070 x33_6 y33_6 (.leaf)))
theorem k33 : m33.all (known tab4 100 187) = true := MTree.all_node (MTree.all_node (MTree.all_node (rfl) q33_0 (rfl)) q33_1 (MTree.all_node (rfl) q33_2 (rfl))) q33_3 (MTree.all_node (MTree.all_node (rfl) q33_4 (rfl)) q33_5 (MTree.all_node (rfl) q33_6 (rfl)))
noncomputable def g33 : Ent Tryz.prog 9 := e187.memo m33 (by kernel_rfl) Tryz.call187 k33
end Go.Proofs.YtafoemfdchegkaaGreatDoor
end
section
namespace Go.Proofs.YtafoemfdchegkaaGreatDoor
open Go.Proofs.YtafoemfdchegkaaGreatDoor.Clo Go.RowKit
set_option maxRecDepth 1000000
set_option maxHeartbeats 0
noncomputable def x34_0 : AV := .cons (.i .u8 1) (.nil)
noncomputable def y34_0 : AV := (.s [60,98,111,100,121,32,120,109,108,110,115,61,34,104,116,116,112,58,47,47,106,97,98,98,101,114,46,111,114,103,47,112,114,111,116,111,99,111,108,47,104,116,116,112,98,105,110,100,34,32,116,121,112,101,61,34,116,101,114,109,105,110,97,116,101,34,32,99,111,110,100,105,116,105,111,110,61,34,98,97,100,45,114,101,113,117,101,115,116,34,47,62])
noncomputable def x34_1 : AV := .cons (.i .u8 2) (.nil)
noncomputable def y34_1 : AV := (.s [60,98,111,100,121,32,120,109,108,110,115,61,34,104,116,116,112,58,47,47,106,97,98,98,101,114,46,111,114,103,47,112,114,111,116,111,99,111,108,47,104,116,116,112,98,105,110,100,34,32,116,121,112,101,61,34,116,101,114,109,105,110,97,116,101,34,32,99,111,110,100,105,116,105,111,110,61,34,104,111,115,116,45,117,110,107,110,111,119,110,34,47,62])
noncomputable def x34_2 : AV := .cons (.i .u8 3) (.nil)
noncomputable def y34_2 : AV := (.s [60,98,111,100,121,32,120,109,108,110,115,61,34,104,116,116,112,58,47,47,106,97,98,98,101,114,46,111,114,103,47,112,114,111,116,111,99,111,108,47,104,116,116,112,98,105,110,100,34,32,116,121,112,101,61,34,116,101,114,109,105,110,97,116,101,34,32,99,111,110,100,105,116,105,111,110,61,34,105,109,112,114,111,112,101,114,45,97,100,100,114,101,115,115,105,110,103,34,47,62])
noncomputable def x34_3 : AV := .cons (.i .u8 4) (.nil)
noncomputable def y34_3 : AV := (.s [60,98,111,100,121,32,120,109,108,110,115,61,34,104,116,116,112,58,47,47,106,97,98,98,101,114,46,111,114,103,47,112,114,111,116,111,99,111,108,47,104,116,116,112,98,105,110,100,34,32,116,121,112,101,61,34,116,101,114,109,105,110,97,116,101,34,32,99,111,110,100,105,116,105,111,110,61,34,105,110,116,101,114,110,97,108,45,115,101,114,118,101,114,45,101,114,114,111,114,34,47,62])
noncomputable def x34_4 : AV := .cons (.i .u8 5) (.nil)
noncomputable def y34_4 : AV := (.s [60,98,111,100,121,32,120,109,108,110,115,61,34,104,116,116,112,58,47,47,106,97,98,98,101,114,46,111,114,103,47,112,114,111,116,111,99,111,108,47,104,116,116,112,98,105,110,100,34,32,116,121,112,101,61,34,116,101,114,109,105,110,97,116,101,34,32,99,111,110,100,105,116,105,111,110,61,34,105,116,101,109,45,110,111,116,45,102,111,117,110,100,34,47,62])
theorem qg34_0 : (known tab4 100 211 x34_0 y34_0 && (known tab4 100 211 x34_1 y34_1 && (known tab4 100 211 x34_2 y34_2 && (known tab4 100 211 x34_3 y34_3 && (known tab4 100 211 x34_4 y34_4))))) = true := by kernel_rfl
theorem q34_0 : known tab4 100 211 x34_0 y34_0 = true := and_l qg34_0
theorem q34_1 : known tab4 100 211 x34_1 y34_1 = true := and_l (and_r qg34_0)
theorem q34_2 : known tab4 100 211 x34_2 y34_2 = true := and_l (and_r (and_r qg34_0))
theorem q34_3 : known tab4 100 211 x34_3 y34_3 = true := and_l (and_r (and_r (and_r qg34_0)))
theorem q34_4 : known tab4 100 211 x34_4 y34_4 = true := (and_r (and_r (and_r (and_r qg34_0))))
noncomputable def m34 : MTree := .node (.node (.node (.leaf) 1000004 x34_0 y34_0 (.leaf)) 1000005 x34_1 y34_1 (.leaf)) 1000006 x34_2 y34_2 (.node (.node (.leaf) 1000007 x34_3 y34_3 (.leaf)) 1000008 x34_4 y34_4 (.leaf))
theorem k34 : m34.all (known tab4 100 211) = true := MTree.all_node (MTree.all_node (MTree.all_node (rfl) q34_0 (rfl)) q34_1 (rfl)) q34_2 (MTree.all_node (MTree.all_node (rfl) q34_3 (rfl)) q34_4 (rfl))
noncomputable def g34 : Ent Tryz.prog 9 := e211.memo m34 (by kernel_rfl) Tryz.call211 k34
end Go.Proofs.YtafoemfdchegkaaGreatDoor
end
