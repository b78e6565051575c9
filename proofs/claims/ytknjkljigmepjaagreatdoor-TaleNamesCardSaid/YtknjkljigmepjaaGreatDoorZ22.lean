/- Part 22 of a proof laid in parts, one behind the other; no condition of its own. -/
import Derived.Test.YtknjkljigmepjaaGreatDoorZ19
import Derived.Test.YtknjkljigmepjaaGreatDoorZ16
import Derived.Test.YtknjkljigmepjaaGreatDoorZ20
import Derived.Test.YtknjkljigmepjaaGreatDoorZ21
set_option linter.all false
section
namespace Go.Proofs.YtknjkljigmepjaaGreatDoor
open Go.Proofs.YtknjkljigmepjaaGreatDoor.Clo Go.RowKit
set_option maxRecDepth 1000000
set_option maxHeartbeats 0
noncomputable def x22_0 : AV := vL [.s []]
noncomputable def y22_0 : AV := (.tu (vL [.ag (vL [vI 0,.s [],.s [],.b false]),vI 0,.b true]))
noncomputable def x22_1 : AV := vL [.s [71,69,84,32,47,32,72,84,84,80,47,49,46,49,13,10,13,10]]
noncomputable def y22_1 : AV := (.tu (vL [.ag (vL [vI 404,.s [],.s [],.b false]),vI 18,.b false]))
noncomputable def x22_2 : AV := vL [.s [80,79,83,84,32,47,104,116,116,112,45,98,105,110,100,32,72,84,84,80,47,49,46,49,13,10,104,111,115,116,58,32,97,13,10,99,111,110,116,101,110,116,45,108,101,110,103,116,104,58,32,54,55,13,10,13,10,60,98,111,100,121,32,120,109,108,110,115,61,34,104,116,116,112,58,47,47,106,97,98,98,101,114,46,111,114,103,47,112,114,111,116,111,99,111,108,47,104,116,116,112,98,105,110,100,34,32,114,105,100,61,34,49,34,32,115,105,100,61,34,120,34,47,62]]
noncomputable def y22_2 : AV := (.tu (vL [.ag (vL [vI 200,.s [97],.s [60,98,111,100,121,32,120,109,108,110,115,61,34,104,116,116,112,58,47,47,106,97,98,98,101,114,46,111,114,103,47,112,114,111,116,111,99,111,108,47,104,116,116,112,98,105,110,100,34,32,114,105,100,61,34,49,34,32,115,105,100,61,34,120,34,47,62],.b true]),vI 124,.b false]))
noncomputable def x22_3 : AV := vL [.s [80,79,83,84,32,47,104,116,116,112,45,98,105,110,100,32,72,84,84,80,47,49,46,49,13,10,104,111,115,116,58,32,97,13,10,99,111,110,116,101,110,116,45,108,101,110,103,116,104,58,32,56,51,13,10,13,10,60,98,111,100,121,32,120,109,108,110,115,61,34,104,116,116,112,58,47,47,106,97,98,98,101,114,46,111,114,103,47,112,114,111,116,111,99,111,108,47,104,116,116,112,98,105,110,100,34,32,114,105,100,61,34,49,49,34,32,115,105,100,61,34,48,48,48,48,48,48,48,48,48,48,48,48,48,48,102,102,34,47,62]]
noncomputable def y22_3 : AV := (.tu (vL [.ag (vL [vI 200,.s [97],.s [60,98,111,100,121,32,120,109,108,110,115,61,34,104,116,116,112,58,47,47,106,97,98,98,101,114,46,111,114,103,47,112,114,111,116,111,99,111,108,47,104,116,116,112,98,105,110,100,34,32,114,105,100,61,34,49,49,34,32,115,105,100,61,34,48,48,48,48,48,48,48,48,48,48,48,48,48,48,102,102,34,47,62],.b true]),vI 140,.b false]))
noncomputable def x22_4 : AV := vL [.s [80,79,83,84,32,47,104,116,116,112,45,98,105,110,100,32,72,84,84,80,47,49,46,49,13,10,104,111,115,116,58,32,97,13,10,99,111,110,116,101,110,116,45,108,101,110,103,116,104,58,32,57,53,13,10,13,10,60,98,111,100,121,32,120,109,108,110,115,61,34,104,116,116,112,58,47,47,106,97,98,98,101,114,46,111,114,103,47,112,114,111,116,111,99,111,108,47,104,116,116,112,98,105,110,100,34,32,114,105,100,61,34,49,50,34,32,115,105,100,61,34,48,48,48,48,48,48,48,48,48,48,48,48,48,48,102,102,34,32,112,97,117,115,101,61,34,49,50,49,34,47,62]]
noncomputable def y22_4 : AV := (.tu (vL [.ag (vL [vI 200,.s [97],.s [60,98,111,100,121,32,120,109,108,110,115,61,34,104,116,116,112,58,47,47,106,97,98,98,101,114,46,111,114,103,47,112,114,111,116,111,99,111,108,47,104,116,116,112,98,105,110,100,34,32,114,105,100,61,34,49,50,34,32,115,105,100,61,34,48,48,48,48,48,48,48,48,48,48,48,48,48,48,102,102,34,32,112,97,117,115,101,61,34,49,50,49,34,47,62],.b true]),vI 152,.b false]))
noncomputable def x22_5 : AV := vL [.s [80,79,83,84,32,47,104,116,116,112,45,98,105,110,100,32,72,84,84,80,47,49,46,49,13,10,104,111,115,116,58,32,97,13,10,99,111,110,116,101,110,116,45,108,101,110,103,116,104,58,32,57,55,13,10,13,10,60,98,111,100,121,32,120,109,108,110,115,61,34,104,116,116,112,58,47,47,106,97,98,98,101,114,46,111,114,103,47,112,114,111,116,111,99,111,108,47,104,116,116,112,98,105,110,100,34,32,114,105,100,61,34,49,48,34,32,116,111,61,34,97,34,32,102,114,111,109,61,34,117,64,97,34,32,119,97,105,116,61,34,54,48,34,32,104,111,108,100,61,34,49,34,47,62]]
noncomputable def y22_5 : AV := (.tu (vL [.ag (vL [vI 200,.s [97],.s [60,98,111,100,121,32,120,109,108,110,115,61,34,104,116,116,112,58,47,47,106,97,98,98,101,114,46,111,114,103,47,112,114,111,116,111,99,111,108,47,104,116,116,112,98,105,110,100,34,32,114,105,100,61,34,49,48,34,32,116,111,61,34,97,34,32,102,114,111,109,61,34,117,64,97,34,32,119,97,105,116,61,34,54,48,34,32,104,111,108,100,61,34,49,34,47,62],.b true]),vI 154,.b false]))
noncomputable def x22_6 : AV := vL [.s [80,79,83,84,32,47,104,116,116,112,45,98,105,110,100,32,72,84,84,80,47,49,46,49,13,10,104,111,115,116,58,32,97,13,10,99,111,110,116,101,110,116,45,108,101,110,103,116,104,58,32,49,48,48,13,10,13,10,60,98,111,100,121,32,120,109,108,110,115,61,34,104,116,116,112,58,47,47,106,97,98,98,101,114,46,111,114,103,47,112,114,111,116,111,99,111,108,47,104,116,116,112,98,105,110,100,34,32,114,105,100,61,34,49,49,34,32,115,105,100,61,34,48,48,48,48,48,48,48,48,48,48,48,48,48,48,102,102,34,32,116,121,112,101,61,34,116,101,114,109,105,110,97,116,101,34,47,62]]
noncomputable def y22_6 : AV := (.tu (vL [.ag (vL [vI 200,.s [97],.s [60,98,111,100,121,32,120,109,108,110,115,61,34,104,116,116,112,58,47,47,106,97,98,98,101,114,46,111,114,103,47,112,114,111,116,111,99,111,108,47,104,116,116,112,98,105,110,100,34,32,114,105,100,61,34,49,49,34,32,115,105,100,61,34,48,48,48,48,48,48,48,48,48,48,48,48,48,48,102,102,34,32,116,121,112,101,61,34,116,101,114,109,105,110,97,116,101,34,47,62],.b true]),vI 158,.b false]))
noncomputable def x22_7 : AV := vL [.s [80,79,83,84,32,47,104,116,116,112,45,98,105,110,100,32,72,84,84,80,47,49,46,49,13,10,104,111,115,116,58,32,97,13,10,99,111,110,116,101,110,116,45,108,101,110,103,116,104,58,32,49,51,48,13,10,13,10,60,98,111,100,121,32,120,109,108,110,115,61,34,104,116,116,112,58,47,47,106,97,98,98,101,114,46,111,114,103,47,112,114,111,116,111,99,111,108,47,104,116,116,112,98,105,110,100,34,32,114,105,100,61,34,49,49,34,32,115,105,100,61,34,48,48,48,48,48,48,48,48,48,48,48,48,48,48,102,102,34,32,107,101,121,61,34,100,97,51,57,97,51,101,101,53,101,54,98,52,98,48,100,51,50,53,53,98,102,101,102,57,53,54,48,49,56,57,48,97,102,100,56,48,55,48,57,34,47,62]]
noncomputable def y22_7 : AV := (.tu (vL [.ag (vL [vI 200,.s [97],.s [60,98,111,100,121,32,120,109,108,110,115,61,34,104,116,116,112,58,47,47,106,97,98,98,101,114,46,111,114,103,47,112,114,111,116,111,99,111,108,47,104,116,116,112,98,105,110,100,34,32,114,105,100,61,34,49,49,34,32,115,105,100,61,34,48,48,48,48,48,48,48,48,48,48,48,48,48,48,102,102,34,32,107,101,121,61,34,100,97,51,57,97,51,101,101,53,101,54,98,52,98,48,100,51,50,53,53,98,102,101,102,57,53,54,48,49,56,57,48,97,102,100,56,48,55,48,57,34,47,62],.b true]),vI 188,.b false]))
noncomputable def m22 : MTree := .node (.node (.node (.node (.leaf) 2 x22_0 y22_0 (.leaf)) 54571197145362827911433390006742259889179536 x22_1 y22_1 (.leaf)) 157224135644196126083782695212703009950992365436055471238837192214537158359289680350585070601611080644565181051565075362736795186802392509751852845855957100379261515369451832480098736954706891878737598287320410340728332838070653570370771900272591278723420963030627586666842278513479567952518073424631 x22_2 y22_2 (.node (.leaf) 56944159764022250623069975601399464220340978307804173883102740610258490696852627436002606838139054891822720430435299728210698546306468791759133043429243079270779004342698964618846674874187634857606369579638128929077238720862197308829410344846995070423095112949478040228796086955874389176975714455347124216863023138655445234555794796025130 x22_3 y22_3 (.leaf))) 4727664717330978943457090987689110948773863494151017299330609838068066487567067694985671495594747940677296097213151520528777173265334407068651900847630435396262040119235532040933053234996637312130158526315732583554416881389236483969937095814112423121671910893373802522367966204521772851366403802928810656950801703630442803071421372910448838912538064869218348729426317 x22_4 y22_4 (.node (.node (.leaf) 312257526914993828236397402645878089055564909925180541603487449194557723437317254186108616612537506733794729924831444779405203522063528092941992970528220736059993374579892582948702808767181079488070614324952010871085524654352539834290080331534892204003899003774719508757770594242148592804596133218991308138834102835911164058768326002591295657118583123489429278371463350388 x22_5 y22_5 (.leaf)) 1362214218656121418778961699915922248159343963882831237326363075486249358781240500233492185343251758628517695706866132764221151975901618304265943579672414277830403266338317473988579062874416136336479459467442050330974981425993334629964128454077160659846747222611854178694737549921850300307292314681337992333446600656345285280028584220584882025403077035534465392870081966890385686670 x22_6 y22_6 (.node (.leaf) 2705447489363909235807974142551196060406334953992944368564765790267545848160224064161067472819099968395947156195227600227134254571936345173728927409660630693248615509074836599609728229089630386777936293618933977223104559081174055854526221493863805403138757037677171034318524097667514149805220476872602989099275910004368807236876421754617155707474962604171197803869285294767743334895075233756374021927616868880545618598511866579543286008720129975293985427 x22_7 y22_7 (.leaf)))
theorem k22 : m22.all (known tab1 100 222) = true := by kernel_rfl
noncomputable def g22 : Ent Tryz.prog 9 := e222.memo m22 (by kernel_rfl) Tryz.call222 k22
end Go.Proofs.YtknjkljigmepjaaGreatDoor
end
section
namespace Go.Proofs.YtknjkljigmepjaaGreatDoor
open Go.Proofs.YtknjkljigmepjaaGreatDoor.Clo Go.RowKit
set_option maxRecDepth 1000000
set_option maxHeartbeats 0
noncomputable def tab2 : FTree Tryz.prog 9 := .node (.node (.node (.node (.node (.node (.node (.node (.node (.leaf) (e3) (.leaf)) (e4) (.node (.leaf) (e5) (.leaf))) (e6) (.node (.node (.leaf) (e7) (.leaf)) (e8) (.node (.leaf) (e9) (.leaf)))) (e10) (.node (.node (.node (.leaf) (e11) (.leaf)) (e12) (.node (.leaf) (e13) (.leaf))) (e14) (.node (.node (.leaf) (e15) (.leaf)) (e16) (.leaf)))) (e17) (.node (.node (.node (.node (.leaf) (e18) (.leaf)) (e19) (.node (.leaf) (e20) (.leaf))) (e21) (.node (.node (.leaf) (e22) (.leaf)) (e23) (.leaf))) (e24) (.node (.node (.node (.leaf) (e25) (.leaf)) (e26) (.node (.leaf) (e27) (.leaf))) (e28) (.node (.node (.leaf) (g16) (.leaf)) (e30) (.leaf))))) (e31) (.node (.node (.node (.node (.node (.leaf) (e32) (.leaf)) (e33) (.node (.leaf) (e34) (.leaf))) (e35) (.node (.node (.leaf) (e36) (.leaf)) (e37) (.leaf))) (e38) (.node (.node (.node (.leaf) (e39) (.leaf)) (e40) (.node (.leaf) (e41) (.leaf))) (e42) (.node (.node (.leaf) (e43) (.leaf)) (e44) (.leaf)))) (e45) (.node (.node (.node (.node (.leaf) (g15) (.leaf)) (e47) (.node (.leaf) (e48) (.leaf))) (e49) (.node (.node (.leaf) (e50) (.leaf)) (e52) (.leaf))) (e53) (.node (.node (.node (.leaf) (e54) (.leaf)) (e55) (.node (.leaf) (g19) (.leaf))) (e57) (.node (.node (.leaf) (e58) (.leaf)) (e59) (.leaf)))))) (e60) (.node (.node (.node (.node (.node (.node (.leaf) (e61) (.leaf)) (e62) (.node (.leaf) (e63) (.leaf))) (e64) (.node (.node (.leaf) (e65) (.leaf)) (e66) (.leaf))) (e67) (.node (.node (.node (.leaf) (e68) (.leaf)) (e69) (.node (.leaf) (e70) (.leaf))) (e71) (.node (.node (.leaf) (e72) (.leaf)) (e73) (.leaf)))) (e74) (.node (.node (.node (.node (.leaf) (e75) (.leaf)) (e76) (.node (.leaf) (g21) (.leaf))) (e78) (.node (.node (.leaf) (e80) (.leaf)) (e81) (.leaf))) (e82) (.node (.node (.node (.leaf) (e83) (.leaf)) (e84) (.node (.leaf) (e85) (.leaf))) (e86) (.node (.node (.leaf) (e88) (.leaf)) (e89) (.leaf))))) (e90) (.node (.node (.node (.node (.node (.leaf) (e91) (.leaf)) (e92) (.node (.leaf) (e93) (.leaf))) (e94) (.node (.node (.leaf) (e95) (.leaf)) (e96) (.leaf))) (e97) (.node (.node (.node (.leaf) (e98) (.leaf)) (e100) (.node (.leaf) (g14) (.leaf))) (e102) (.node (.node (.leaf) (e103) (.leaf)) (e104) (.leaf)))) (e105) (.node (.node (.node (.node (.leaf) (e106) (.leaf)) (e107) (.node (.leaf) (e108) (.leaf))) (e109) (.node (.node (.leaf) (e110) (.leaf)) (e111) (.leaf))) (e112) (.node (.node (.node (.leaf) (e114) (.leaf)) (e115) (.node (.leaf) (e116) (.leaf))) (e117) (.node (.node (.leaf) (e118) (.leaf)) (e120) (.leaf))))))) (e121) (.node (.node (.node (.node (.node (.node (.node (.leaf) (e122) (.leaf)) (e123) (.node (.leaf) (e124) (.leaf))) (e127) (.node (.node (.leaf) (e129) (.leaf)) (e130) (.leaf))) (e131) (.node (.node (.node (.leaf) (e132) (.leaf)) (e133) (.node (.leaf) (e134) (.leaf))) (e136) (.node (.node (.leaf) (e137) (.leaf)) (e138) (.leaf)))) (e139) (.node (.node (.node (.node (.leaf) (e140) (.leaf)) (e141) (.node (.leaf) (e142) (.leaf))) (e143) (.node (.node (.leaf) (e144) (.leaf)) (e145) (.leaf))) (e147) (.node (.node (.node (.leaf) (e148) (.leaf)) (e149) (.node (.leaf) (e150) (.leaf))) (e151) (.node (.node (.leaf) (e152) (.leaf)) (e153) (.leaf))))) (e154) (.node (.node (.node (.node (.node (.leaf) (e155) (.leaf)) (e156) (.node (.leaf) (e158) (.leaf))) (e159) (.node (.node (.leaf) (e160) (.leaf)) (e161) (.leaf))) (e162) (.node (.node (.node (.leaf) (e163) (.leaf)) (e165) (.node (.leaf) (e166) (.leaf))) (e167) (.node (.node (.leaf) (e168) (.leaf)) (e169) (.leaf)))) (e170) (.node (.node (.node (.node (.leaf) (e171) (.leaf)) (e172) (.node (.leaf) (e173) (.leaf))) (e174) (.node (.node (.leaf) (e175) (.leaf)) (e176) (.leaf))) (e179) (.node (.node (.node (.leaf) (e180) (.leaf)) (e181) (.node (.leaf) (e182) (.leaf))) (e183) (.node (.node (.leaf) (e188) (.leaf)) (e189) (.leaf)))))) (e190) (.node (.node (.node (.node (.node (.node (.leaf) (e191) (.leaf)) (e192) (.node (.leaf) (e193) (.leaf))) (e194) (.node (.node (.leaf) (g1) (.leaf)) (e198) (.leaf))) (e199) (.node (.node (.node (.leaf) (e202) (.leaf)) (e203) (.node (.leaf) (e204) (.leaf))) (e205) (.node (.node (.leaf) (e206) (.leaf)) (e209) (.leaf)))) (e210) (.node (.node (.node (.node (.leaf) (e211) (.leaf)) (e212) (.node (.leaf) (e213) (.leaf))) (g17) (.node (.node (.leaf) (g5) (.leaf)) (e217) (.leaf))) (e218) (.node (.node (.node (.leaf) (e219) (.leaf)) (g22) (.node (.leaf) (e223) (.leaf))) (e225) (.node (.node (.leaf) (e227) (.leaf)) (e228) (.leaf))))) (e229) (.node (.node (.node (.node (.node (.leaf) (e230) (.leaf)) (e231) (.node (.leaf) (e233) (.leaf))) (e234) (.node (.node (.leaf) (e236) (.leaf)) (e239) (.leaf))) (e240) (.node (.node (.node (.leaf) (g13) (.leaf)) (e242) (.node (.leaf) (e243) (.leaf))) (e244) (.node (.node (.leaf) (e245) (.leaf)) (g11) (.leaf)))) (e247) (.node (.node (.node (.node (.leaf) (e248) (.leaf)) (e249) (.node (.leaf) (e250) (.leaf))) (e252) (.node (.node (.leaf) (e253) (.leaf)) (e254) (.leaf))) (e257) (.node (.node (.node (.leaf) (e258) (.leaf)) (e259) (.node (.leaf) (e260) (.leaf))) (e261) (.node (.node (.leaf) (e262) (.leaf)) (e263) (.leaf)))))))) (e266) (.node (.node (.node (.node (.node (.node (.node (.node (.leaf) (e267) (.leaf)) (e268) (.node (.leaf) (e269) (.leaf))) (e273) (.node (.node (.leaf) (e274) (.leaf)) (e275) (.leaf))) (e276) (.node (.node (.node (.leaf) (e277) (.leaf)) (e278) (.node (.leaf) (e279) (.leaf))) (e280) (.node (.node (.leaf) (g9) (.leaf)) (g8) (.leaf)))) (g7) (.node (.node (.node (.node (.leaf) (e284) (.leaf)) (e285) (.node (.leaf) (e286) (.leaf))) (e287) (.node (.node (.leaf) (e288) (.leaf)) (e290) (.leaf))) (e295) (.node (.node (.node (.leaf) (e298) (.leaf)) (e300) (.node (.leaf) (e301) (.leaf))) (e302) (.node (.node (.leaf) (e303) (.leaf)) (e304) (.leaf))))) (e305) (.node (.node (.node (.node (.node (.leaf) (e306) (.leaf)) (e307) (.node (.leaf) (e308) (.leaf))) (e309) (.node (.node (.leaf) (e310) (.leaf)) (e311) (.leaf))) (e313) (.node (.node (.node (.leaf) (e314) (.leaf)) (e315) (.node (.leaf) (e317) (.leaf))) (e318) (.node (.node (.leaf) (e319) (.leaf)) (e322) (.leaf)))) (e323) (.node (.node (.node (.node (.leaf) (g18) (.leaf)) (e325) (.node (.leaf) (e326) (.leaf))) (e327) (.node (.node (.leaf) (e328) (.leaf)) (e329) (.leaf))) (e330) (.node (.node (.node (.leaf) (e332) (.leaf)) (e333) (.node (.leaf) (e334) (.leaf))) (e335) (.node (.node (.leaf) (g12) (.leaf)) (e337) (.leaf)))))) (g10) (.node (.node (.node (.node (.node (.node (.leaf) (g20) (.leaf)) (e340) (.node (.leaf) (e342) (.leaf))) (e343) (.node (.node (.leaf) (e344) (.leaf)) (e345) (.leaf))) (e346) (.node (.node (.node (.leaf) (e348) (.leaf)) (e349) (.node (.leaf) (e350) (.leaf))) (e351) (.node (.node (.leaf) (e352) (.leaf)) (e353) (.leaf)))) (e354) (.node (.node (.node (.node (.leaf) (e355) (.leaf)) (e362) (.node (.leaf) (e363) (.leaf))) (e364) (.node (.node (.leaf) (e365) (.leaf)) (e366) (.leaf))) (e367) (.node (.node (.node (.leaf) (e368) (.leaf)) (e369) (.node (.leaf) (e370) (.leaf))) (e371) (.node (.node (.leaf) (e372) (.leaf)) (e373) (.leaf))))) (e374) (.node (.node (.node (.node (.node (.leaf) (e375) (.leaf)) (e376) (.node (.leaf) (e381) (.leaf))) (e383) (.node (.node (.leaf) (e384) (.leaf)) (e385) (.leaf))) (e386) (.node (.node (.node (.leaf) (e387) (.leaf)) (e388) (.node (.leaf) (e389) (.leaf))) (e391) (.node (.node (.leaf) (e393) (.leaf)) (e394) (.leaf)))) (e395) (.node (.node (.node (.node (.leaf) (e400) (.leaf)) (e401) (.node (.leaf) (e402) (.leaf))) (e403) (.node (.node (.leaf) (e404) (.leaf)) (e405) (.leaf))) (e407) (.node (.node (.node (.leaf) (e408) (.leaf)) (e409) (.node (.leaf) (g6) (.leaf))) (e411) (.node (.node (.leaf) (e412) (.leaf)) (e413) (.leaf))))))) (e415) (.node (.node (.node (.node (.node (.node (.node (.leaf) (e417) (.leaf)) (g3) (.node (.leaf) (e419) (.leaf))) (e420) (.node (.node (.leaf) (e421) (.leaf)) (e422) (.leaf))) (e423) (.node (.node (.node (.leaf) (g4) (.leaf)) (e425) (.node (.leaf) (e426) (.leaf))) (e427) (.node (.node (.leaf) (e428) (.leaf)) (e429) (.leaf)))) (e430) (.node (.node (.node (.node (.leaf) (e431) (.leaf)) (e432) (.node (.leaf) (e433) (.leaf))) (e434) (.node (.node (.leaf) (e435) (.leaf)) (e446) (.leaf))) (e447) (.node (.node (.node (.leaf) (e448) (.leaf)) (e449) (.node (.leaf) (e450) (.leaf))) (e452) (.node (.node (.leaf) (e456) (.leaf)) (e471) (.leaf))))) (e473) (.node (.node (.node (.node (.node (.leaf) (e474) (.leaf)) (e475) (.node (.leaf) (e476) (.leaf))) (e477) (.node (.node (.leaf) (e479) (.leaf)) (e480) (.leaf))) (e481) (.node (.node (.node (.leaf) (e482) (.leaf)) (e483) (.node (.leaf) (e484) (.leaf))) (e485) (.node (.node (.leaf) (e486) (.leaf)) (e489) (.leaf)))) (e490) (.node (.node (.node (.node (.leaf) (e491) (.leaf)) (e492) (.node (.leaf) (e493) (.leaf))) (e494) (.node (.node (.leaf) (e495) (.leaf)) (e496) (.leaf))) (e500) (.node (.node (.node (.leaf) (e501) (.leaf)) (e502) (.node (.leaf) (e503) (.leaf))) (e505) (.node (.node (.leaf) (e506) (.leaf)) (e507) (.leaf)))))) (e508) (.node (.node (.node (.node (.node (.node (.leaf) (e509) (.leaf)) (e510) (.node (.leaf) (e511) (.leaf))) (e512) (.node (.node (.leaf) (e513) (.leaf)) (e514) (.leaf))) (e515) (.node (.node (.node (.leaf) (e516) (.leaf)) (e517) (.node (.leaf) (e520) (.leaf))) (e521) (.node (.node (.leaf) (e522) (.leaf)) (e529) (.leaf)))) (e531) (.node (.node (.node (.node (.leaf) (e532) (.leaf)) (e534) (.node (.leaf) (e535) (.leaf))) (e536) (.node (.node (.leaf) (e538) (.leaf)) (e539) (.leaf))) (e560) (.node (.node (.node (.leaf) (e563) (.leaf)) (e564) (.node (.leaf) (e565) (.leaf))) (e566) (.node (.node (.leaf) (e567) (.leaf)) (e568) (.leaf))))) (e569) (.node (.node (.node (.node (.node (.leaf) (e570) (.leaf)) (e571) (.node (.leaf) (e572) (.leaf))) (e573) (.node (.node (.leaf) (e574) (.leaf)) (e576) (.leaf))) (e577) (.node (.node (.node (.leaf) (e578) (.leaf)) (e579) (.node (.leaf) (e580) (.leaf))) (e582) (.node (.node (.leaf) (e585) (.leaf)) (e590) (.leaf)))) (e591) (.node (.node (.node (.node (.leaf) (e592) (.leaf)) (e618) (.node (.leaf) (e620) (.leaf))) (e621) (.node (.node (.leaf) (e622) (.leaf)) (g2) (.leaf))) (e628) (.node (.node (.node (.leaf) (e666) (.leaf)) (e767) (.node (.leaf) (e768) (.leaf))) (e769) (.node (.node (.leaf) (e770) (.leaf)) (e771) (.leaf))))))))
end Go.Proofs.YtknjkljigmepjaaGreatDoor
end
section
namespace Go.Proofs.YtknjkljigmepjaaGreatDoor
open Go.Proofs.YtknjkljigmepjaaGreatDoor.Clo Go.RowKit
set_option maxRecDepth 1000000
set_option maxHeartbeats 0
noncomputable def x23_0 : AV := vL [.s [97]]
noncomputable def y23_0 : AV := (.b true)
noncomputable def x23_1 : AV := vL [.s [116,111]]
noncomputable def y23_1 : AV := (.b true)
noncomputable def x23_2 : AV := vL [.s [107,101,121]]
noncomputable def y23_2 : AV := (.b true)
noncomputable def x23_3 : AV := vL [.s [114,105,100]]
noncomputable def y23_3 : AV := (.b true)
noncomputable def x23_4 : AV := vL [.s [115,105,100]]
noncomputable def y23_4 : AV := (.b true)
noncomputable def x23_5 : AV := vL [.s [98,105,110,100]]
noncomputable def y23_5 : AV := (.b true)
noncomputable def x23_6 : AV := vL [.s [98,111,100,121]]
noncomputable def y23_6 : AV := (.b true)
noncomputable def x23_7 : AV := vL [.s [102,114,111,109]]
noncomputable def y23_7 : AV := (.b true)
noncomputable def x23_8 : AV := vL [.s [104,111,108,100]]
noncomputable def y23_8 : AV := (.b true)
noncomputable def x23_9 : AV := vL [.s [116,121,112,101]]
noncomputable def y23_9 : AV := (.b true)
noncomputable def x23_10 : AV := vL [.s [119,97,105,116]]
noncomputable def y23_10 : AV := (.b true)
noncomputable def x23_11 : AV := vL [.s [112,97,117,115,101]]
noncomputable def y23_11 : AV := (.b true)
noncomputable def x23_12 : AV := vL [.s [120,109,108,110,115]]
noncomputable def y23_12 : AV := (.b true)
noncomputable def x23_13 : AV := vL [.s [102,101,97,116,117,114,101,115]]
noncomputable def y23_13 : AV := (.b true)
noncomputable def x23_14 : AV := vL [.s [109,97,120,112,97,117,115,101]]
noncomputable def y23_14 : AV := (.b true)
noncomputable def x23_15 : AV := vL [.s [114,101,113,117,101,115,116,115]]
noncomputable def y23_15 : AV := (.b true)
noncomputable def x23_16 : AV := vL [.s [99,111,110,100,105,116,105,111,110]]
noncomputable def y23_16 : AV := (.b true)
noncomputable def x23_17 : AV := vL [.s [105,110,97,99,116,105,118,105,116,121]]
noncomputable def y23_17 : AV := (.b true)
noncomputable def m23 : MTree := .node (.node (.node (.node (.node (.leaf) 612 x23_0 y23_0 (.leaf)) 162279 x23_1 y23_1 (.leaf)) 41108814 x23_2 y23_2 (.node (.leaf) 41572164 x23_3 y23_3 (.leaf))) 41638213 x23_4 y23_4 (.node (.node (.node (.leaf) 10412455331 x23_5 y23_5 (.leaf)) 10412849076 x23_6 y23_6 (.leaf)) 10480948410 x23_7 y23_7 (.node (.leaf) 10514698669 x23_8 y23_8 (.leaf)))) 10719055304 x23_9 y23_9 (.node (.node (.node (.node (.leaf) 10768392123 x23_10 y23_10 (.leaf)) 2736940275237 x23_11 y23_11 (.leaf)) 2772043137849 x23_12 y23_12 (.node (.leaf) 45719065770914722921 x23_13 y23_13 (.leaf))) 46236297109178681454 x23_14 y23_14 (.node (.node (.leaf) 46607697627862220166 x23_15 y23_15 (.leaf)) 11693450698509299688402 x23_16 y23_16 (.node (.leaf) 3034542865643349535878992 x23_17 y23_17 (.leaf))))
theorem k23 : m23.all (known tab2 100 492) = true := by kernel_rfl
noncomputable def g23 : Ent Tryz.prog 9 := e492.memo m23 (by kernel_rfl) Tryz.call492 k23
end Go.Proofs.YtknjkljigmepjaaGreatDoor
end
section
namespace Go.Proofs.YtknjkljigmepjaaGreatDoor
open Go.Proofs.YtknjkljigmepjaaGreatDoor.Clo Go.RowKit
set_option maxRecDepth 1000000
set_option maxHeartbeats 0
noncomputable def x24_0 : AV := vL [.s [49]]
noncomputable def y24_0 : AV := (.tu (vL [.s [49],vI 0]))
noncomputable def x24_1 : AV := vL [.s [50]]
noncomputable def y24_1 : AV := (.tu (vL [.s [50],vI 0]))
noncomputable def x24_2 : AV := vL [.s [97]]
noncomputable def y24_2 : AV := (.tu (vL [.s [97],vI 0]))
noncomputable def x24_3 : AV := vL [.s [120]]
noncomputable def y24_3 : AV := (.tu (vL [.s [120],vI 0]))
noncomputable def x24_4 : AV := vL [.s [49,48]]
noncomputable def y24_4 : AV := (.tu (vL [.s [49,48],vI 0]))
noncomputable def x24_5 : AV := vL [.s [49,49]]
noncomputable def y24_5 : AV := (.tu (vL [.s [49,49],vI 0]))
noncomputable def x24_6 : AV := vL [.s [49,50]]
noncomputable def y24_6 : AV := (.tu (vL [.s [49,50],vI 0]))
noncomputable def x24_7 : AV := vL [.s [51,48]]
noncomputable def y24_7 : AV := (.tu (vL [.s [51,48],vI 0]))
noncomputable def x24_8 : AV := vL [.s [54,48]]
noncomputable def y24_8 : AV := (.tu (vL [.s [54,48],vI 0]))
noncomputable def x24_9 : AV := vL [.s [49,50,48]]
noncomputable def y24_9 : AV := (.tu (vL [.s [49,50,48],vI 0]))
noncomputable def x24_10 : AV := vL [.s [49,50,49]]
noncomputable def y24_10 : AV := (.tu (vL [.s [49,50,49],vI 0]))
noncomputable def x24_11 : AV := vL [.s [117,64,97]]
noncomputable def y24_11 : AV := (.tu (vL [.s [117,64,97],vI 0]))
noncomputable def x24_12 : AV := vL [.s [116,101,114,109,105,110,97,116,101]]
noncomputable def y24_12 : AV := (.tu (vL [.s [116,101,114,109,105,110,97,116,101],vI 0]))
noncomputable def x24_13 : AV := vL [.s [105,116,101,109,45,110,111,116,45,102,111,117,110,100]]
noncomputable def y24_13 : AV := (.tu (vL [.s [105,116,101,109,45,110,111,116,45,102,111,117,110,100],vI 0]))
noncomputable def x24_14 : AV := vL [.s [48,48,48,48,48,48,48,48,48,48,48,48,48,48,102,102]]
noncomputable def y24_14 : AV := (.tu (vL [.s [48,48,48,48,48,48,48,48,48,48,48,48,48,48,102,102],vI 0]))
noncomputable def x24_15 : AV := vL [.s [112,111,108,105,99,121,45,118,105,111,108,97,116,105,111,110]]
noncomputable def y24_15 : AV := (.tu (vL [.s [112,111,108,105,99,121,45,118,105,111,108,97,116,105,111,110],vI 0]))
noncomputable def x24_16 : AV := vL [.s [104,116,116,112,58,47,47,101,116,104,101,114,120,46,106,97,98,98,101,114,46,111,114,103,47,115,116,114,101,97,109,115]]
noncomputable def y24_16 : AV := (.tu (vL [.s [104,116,116,112,58,47,47,101,116,104,101,114,120,46,106,97,98,98,101,114,46,111,114,103,47,115,116,114,101,97,109,115],vI 0]))
noncomputable def x24_17 : AV := vL [.s [117,114,110,58,105,101,116,102,58,112,97,114,97,109,115,58,120,109,108,58,110,115,58,120,109,112,112,45,98,105,110,100]]
noncomputable def y24_17 : AV := (.tu (vL [.s [117,114,110,58,105,101,116,102,58,112,97,114,97,109,115,58,120,109,108,58,110,115,58,120,109,112,112,45,98,105,110,100],vI 0]))
noncomputable def x24_18 : AV := vL [.s [104,116,116,112,58,47,47,106,97,98,98,101,114,46,111,114,103,47,112,114,111,116,111,99,111,108,47,104,116,116,112,98,105,110,100]]
noncomputable def y24_18 : AV := (.tu (vL [.s [104,116,116,112,58,47,47,106,97,98,98,101,114,46,111,114,103,47,112,114,111,116,111,99,111,108,47,104,116,116,112,98,105,110,100],vI 0]))
noncomputable def x24_19 : AV := vL [.s [100,97,51,57,97,51,101,101,53,101,54,98,52,98,48,100,51,50,53,53,98,102,101,102,57,53,54,48,49,56,57,48,97,102,100,56,48,55,48,57]]
noncomputable def y24_19 : AV := (.tu (vL [.s [100,97,51,57,97,51,101,101,53,101,54,98,52,98,48,100,51,50,53,53,98,102,101,102,57,53,54,48,49,56,57,48,97,102,100,56,48,55,48,57],vI 0]))
noncomputable def m24 : MTree := .node (.node (.node (.node (.node (.leaf) 564 x24_0 y24_0 (.leaf)) 565 x24_1 y24_1 (.leaf)) 612 x24_2 y24_2 (.node (.node (.leaf) 635 x24_3 y24_3 (.leaf)) 144997 x24_4 y24_4 (.leaf))) 144998 x24_5 y24_5 (.node (.node (.node (.leaf) 144999 x24_6 y24_6 (.leaf)) 145511 x24_7 y24_7 (.leaf)) 146282 x24_8 y24_8 (.node (.leaf) 37264792 x24_9 y24_9 (.leaf)))) 37264793 x24_10 y24_10 (.node (.node (.node (.node (.leaf) 41759771 x24_11 y24_11 (.leaf)) 12016240865544724909524 x24_12 y24_12 (.leaf)) 13238602873260586722892405166751366 x24_13 y24_13 (.node (.leaf) 793693583345728398922899451157461553534 x24_14 y24_14 (.leaf))) 884234162384373528709373906442440384164 x24_15 y24_15 (.node (.node (.node (.leaf) 316182631710129478897415280824140984938882768834303067786162166147638139686978 x24_16 y24_16 (.leaf)) 322814058453948504721110504435775017302779335851303514628395123443846139655814 x24_17 y24_17 (.leaf)) 5367071486948341882162063927032269754654969244832075988092418675282274068601612097670 x24_18 y24_18 (.node (.leaf) 5977735285454342570977199382351152868745485737951662225352954262056465450330612637648030826015312 x24_19 y24_19 (.leaf))))
theorem k24 : m24.all (known tab2 100 503) = true := by kernel_rfl
noncomputable def g24 : Ent Tryz.prog 9 := e503.memo m24 (by kernel_rfl) Tryz.call503 k24
end Go.Proofs.YtknjkljigmepjaaGreatDoor
end
section
namespace Go.Proofs.YtknjkljigmepjaaGreatDoor
open Go.Proofs.YtknjkljigmepjaaGreatDoor.Clo Go.RowKit
set_option maxRecDepth 1000000
set_option maxHeartbeats 0
noncomputable def x25_0 : AV := vL [.s [49],.b true]
noncomputable def y25_0 : AV := (.s [49])
noncomputable def x25_1 : AV := vL [.s [97],.b true]
noncomputable def y25_1 : AV := (.s [97])
noncomputable def x25_2 : AV := vL [.s [120],.b true]
noncomputable def y25_2 : AV := (.s [120])
noncomputable def x25_3 : AV := vL [.s [49,48],.b true]
noncomputable def y25_3 : AV := (.s [49,48])
noncomputable def x25_4 : AV := vL [.s [49,49],.b true]
noncomputable def y25_4 : AV := (.s [49,49])
noncomputable def x25_5 : AV := vL [.s [49,50],.b true]
noncomputable def y25_5 : AV := (.s [49,50])
noncomputable def x25_6 : AV := vL [.s [54,48],.b true]
noncomputable def y25_6 : AV := (.s [54,48])
noncomputable def x25_7 : AV := vL [.s [49,50,49],.b true]
noncomputable def y25_7 : AV := (.s [49,50,49])
noncomputable def x25_8 : AV := vL [.s [117,64,97],.b true]
noncomputable def y25_8 : AV := (.s [117,64,97])
noncomputable def x25_9 : AV := vL [.s [116,101,114,109,105,110,97,116,101],.b true]
noncomputable def y25_9 : AV := (.s [116,101,114,109,105,110,97,116,101])
noncomputable def x25_10 : AV := vL [.s [48,48,48,48,48,48,48,48,48,48,48,48,48,48,102,102],.b true]
noncomputable def y25_10 : AV := (.s [48,48,48,48,48,48,48,48,48,48,48,48,48,48,102,102])
noncomputable def x25_11 : AV := vL [.s [104,116,116,112,58,47,47,101,116,104,101,114,120,46,106,97,98,98,101,114,46,111,114,103,47,115,116,114,101,97,109,115],.b true]
noncomputable def y25_11 : AV := (.s [104,116,116,112,58,47,47,101,116,104,101,114,120,46,106,97,98,98,101,114,46,111,114,103,47,115,116,114,101,97,109,115])
noncomputable def x25_12 : AV := vL [.s [117,114,110,58,105,101,116,102,58,112,97,114,97,109,115,58,120,109,108,58,110,115,58,120,109,112,112,45,98,105,110,100],.b true]
noncomputable def y25_12 : AV := (.s [117,114,110,58,105,101,116,102,58,112,97,114,97,109,115,58,120,109,108,58,110,115,58,120,109,112,112,45,98,105,110,100])
noncomputable def x25_13 : AV := vL [.s [104,116,116,112,58,47,47,106,97,98,98,101,114,46,111,114,103,47,112,114,111,116,111,99,111,108,47,104,116,116,112,98,105,110,100],.b true]
noncomputable def y25_13 : AV := (.s [104,116,116,112,58,47,47,106,97,98,98,101,114,46,111,114,103,47,112,114,111,116,111,99,111,108,47,104,116,116,112,98,105,110,100])
noncomputable def x25_14 : AV := vL [.s [100,97,51,57,97,51,101,101,53,101,54,98,52,98,48,100,51,50,53,53,98,102,101,102,57,53,54,48,49,56,57,48,97,102,100,56,48,55,48,57],.b true]
noncomputable def y25_14 : AV := (.s [100,97,51,57,97,51,101,101,53,101,54,98,52,98,48,100,51,50,53,53,98,102,101,102,57,53,54,48,49,56,57,48,97,102,100,56,48,55,48,57])
noncomputable def m25 : MTree := .node (.node (.node (.node (.leaf) 1693 x25_0 y25_0 (.leaf)) 1837 x25_1 y25_1 (.node (.leaf) 1906 x25_2 y25_2 (.leaf))) 434992 x25_3 y25_3 (.node (.node (.leaf) 434995 x25_4 y25_4 (.leaf)) 434998 x25_5 y25_5 (.node (.leaf) 438847 x25_6 y25_6 (.leaf)))) 111794380 x25_7 y25_7 (.node (.node (.node (.leaf) 125279314 x25_8 y25_8 (.leaf)) 36048722596634174728573 x25_9 y25_9 (.node (.leaf) 2381080750037185196768698353472384660603 x25_10 y25_10 (.leaf))) 948547895130388436692245842472422954816648306502909203358486498442914419060935 x25_11 y25_11 (.node (.node (.leaf) 968442175361845514163331513307325051908338007553910543885185370331538418967443 x25_12 y25_12 (.leaf)) 16101214460845025646486191781096809263964907734496227964277256025846822205804836293011 x25_13 y25_13 (.node (.leaf) 17933205856363027712931598147053458606236457213854986676058862786169396350991837912944092478045937 x25_14 y25_14 (.leaf))))
theorem k25 : m25.all (known tab2 100 620) = true := by kernel_rfl
noncomputable def g25 : Ent Tryz.prog 9 := e620.memo m25 (by kernel_rfl) Tryz.call620 k25
end Go.Proofs.YtknjkljigmepjaaGreatDoor
end
section
namespace Go.Proofs.YtknjkljigmepjaaGreatDoor
open Go.Proofs.YtknjkljigmepjaaGreatDoor.Clo Go.RowKit
set_option maxRecDepth 1000000
set_option maxHeartbeats 0
noncomputable def x26_0 : AV := vL [.s []]
noncomputable def y26_0 : AV := (.tu (vL [.ag (vL [.s [],.s [],.s []]),vI 190]))
noncomputable def x26_1 : AV := vL [.s [97]]
noncomputable def y26_1 : AV := (.tu (vL [.ag (vL [.s [],.s [97],.s []]),vI 0]))
noncomputable def x26_2 : AV := vL [.s [117,64,97]]
noncomputable def y26_2 : AV := (.tu (vL [.ag (vL [.s [117],.s [97],.s []]),vI 0]))
noncomputable def x26_3 : AV := vL [.s [118,64,97]]
noncomputable def y26_3 : AV := (.tu (vL [.ag (vL [.s [118],.s [97],.s []]),vI 0]))
noncomputable def m26 : MTree := .node (.node (.node (.leaf) 2 x26_0 y26_0 (.leaf)) 612 x26_1 y26_1 (.leaf)) 41759771 x26_2 y26_2 (.node (.leaf) 41825820 x26_3 y26_3 (.leaf))
theorem k26 : m26.all (known tab2 100 204) = true := by kernel_rfl
noncomputable def g26 : Ent Tryz.prog 9 := e204.memo m26 (by kernel_rfl) Tryz.call204 k26
end Go.Proofs.YtknjkljigmepjaaGreatDoor
end
section
namespace Go.Proofs.YtknjkljigmepjaaGreatDoor
open Go.Proofs.YtknjkljigmepjaaGreatDoor.Clo Go.RowKit
set_option maxRecDepth 1000000
set_option maxHeartbeats 0
noncomputable def x27_0 : AV := vL [.ag (vL [.s [],.s [],.s []])]
noncomputable def y27_0 : AV := (.tu (vL [.s [],vI 8]))
noncomputable def x27_1 : AV := vL [.ag (vL [.s [],.s [97],.s []])]
noncomputable def y27_1 : AV := (.tu (vL [.s [97],vI 0]))
noncomputable def x27_2 : AV := vL [.ag (vL [.s [117],.s [97],.s []])]
noncomputable def y27_2 : AV := (.tu (vL [.s [117,64,97],vI 0]))
noncomputable def x27_3 : AV := vL [.ag (vL [.s [118],.s [97],.s []])]
noncomputable def y27_3 : AV := (.tu (vL [.s [118,64,97],vI 0]))
noncomputable def m27 : MTree := .node (.node (.node (.leaf) 4 x27_0 y27_0 (.leaf)) 870 x27_1 y27_1 (.leaf)) 162780 x27_2 y27_2 (.node (.leaf) 163037 x27_3 y27_3 (.leaf))
theorem k27 : m27.all (known tab2 100 205) = true := by kernel_rfl
noncomputable def g27 : Ent Tryz.prog 9 := e205.memo m27 (by kernel_rfl) Tryz.call205 k27
end Go.Proofs.YtknjkljigmepjaaGreatDoor
end
section
namespace Go.Proofs.YtknjkljigmepjaaGreatDoor
open Go.Proofs.YtknjkljigmepjaaGreatDoor.Clo Go.RowKit
set_option maxRecDepth 1000000
set_option maxHeartbeats 0
noncomputable def tab3 : FTree Tryz.prog 9 := .node (.node (.node (.node (.node (.node (.node (.node (.node (.leaf) (e3) (.leaf)) (e4) (.node (.leaf) (e5) (.leaf))) (e6) (.node (.node (.leaf) (e7) (.leaf)) (e8) (.node (.leaf) (e9) (.leaf)))) (e10) (.node (.node (.node (.leaf) (e11) (.leaf)) (e12) (.node (.leaf) (e13) (.leaf))) (e14) (.node (.node (.leaf) (e15) (.leaf)) (e16) (.leaf)))) (e17) (.node (.node (.node (.node (.leaf) (e18) (.leaf)) (e19) (.node (.leaf) (e20) (.leaf))) (e21) (.node (.node (.leaf) (e22) (.leaf)) (e23) (.leaf))) (e24) (.node (.node (.node (.leaf) (e25) (.leaf)) (e26) (.node (.leaf) (e27) (.leaf))) (e28) (.node (.node (.leaf) (g16) (.leaf)) (e30) (.leaf))))) (e31) (.node (.node (.node (.node (.node (.leaf) (e32) (.leaf)) (e33) (.node (.leaf) (e34) (.leaf))) (e35) (.node (.node (.leaf) (e36) (.leaf)) (e37) (.leaf))) (e38) (.node (.node (.node (.leaf) (e39) (.leaf)) (e40) (.node (.leaf) (e41) (.leaf))) (e42) (.node (.node (.leaf) (e43) (.leaf)) (e44) (.leaf)))) (e45) (.node (.node (.node (.node (.leaf) (g15) (.leaf)) (e47) (.node (.leaf) (e48) (.leaf))) (e49) (.node (.node (.leaf) (e50) (.leaf)) (e52) (.leaf))) (e53) (.node (.node (.node (.leaf) (e54) (.leaf)) (e55) (.node (.leaf) (g19) (.leaf))) (e57) (.node (.node (.leaf) (e58) (.leaf)) (e59) (.leaf)))))) (e60) (.node (.node (.node (.node (.node (.node (.leaf) (e61) (.leaf)) (e62) (.node (.leaf) (e63) (.leaf))) (e64) (.node (.node (.leaf) (e65) (.leaf)) (e66) (.leaf))) (e67) (.node (.node (.node (.leaf) (e68) (.leaf)) (e69) (.node (.leaf) (e70) (.leaf))) (e71) (.node (.node (.leaf) (e72) (.leaf)) (e73) (.leaf)))) (e74) (.node (.node (.node (.node (.leaf) (e75) (.leaf)) (e76) (.node (.leaf) (g21) (.leaf))) (e78) (.node (.node (.leaf) (e80) (.leaf)) (e81) (.leaf))) (e82) (.node (.node (.node (.leaf) (e83) (.leaf)) (e84) (.node (.leaf) (e85) (.leaf))) (e86) (.node (.node (.leaf) (e88) (.leaf)) (e89) (.leaf))))) (e90) (.node (.node (.node (.node (.node (.leaf) (e91) (.leaf)) (e92) (.node (.leaf) (e93) (.leaf))) (e94) (.node (.node (.leaf) (e95) (.leaf)) (e96) (.leaf))) (e97) (.node (.node (.node (.leaf) (e98) (.leaf)) (e100) (.node (.leaf) (g14) (.leaf))) (e102) (.node (.node (.leaf) (e103) (.leaf)) (e104) (.leaf)))) (e105) (.node (.node (.node (.node (.leaf) (e106) (.leaf)) (e107) (.node (.leaf) (e108) (.leaf))) (e109) (.node (.node (.leaf) (e110) (.leaf)) (e111) (.leaf))) (e112) (.node (.node (.node (.leaf) (e114) (.leaf)) (e115) (.node (.leaf) (e116) (.leaf))) (e117) (.node (.node (.leaf) (e118) (.leaf)) (e120) (.leaf))))))) (e121) (.node (.node (.node (.node (.node (.node (.node (.leaf) (e122) (.leaf)) (e123) (.node (.leaf) (e124) (.leaf))) (e127) (.node (.node (.leaf) (e129) (.leaf)) (e130) (.leaf))) (e131) (.node (.node (.node (.leaf) (e132) (.leaf)) (e133) (.node (.leaf) (e134) (.leaf))) (e136) (.node (.node (.leaf) (e137) (.leaf)) (e138) (.leaf)))) (e139) (.node (.node (.node (.node (.leaf) (e140) (.leaf)) (e141) (.node (.leaf) (e142) (.leaf))) (e143) (.node (.node (.leaf) (e144) (.leaf)) (e145) (.leaf))) (e147) (.node (.node (.node (.leaf) (e148) (.leaf)) (e149) (.node (.leaf) (e150) (.leaf))) (e151) (.node (.node (.leaf) (e152) (.leaf)) (e153) (.leaf))))) (e154) (.node (.node (.node (.node (.node (.leaf) (e155) (.leaf)) (e156) (.node (.leaf) (e158) (.leaf))) (e159) (.node (.node (.leaf) (e160) (.leaf)) (e161) (.leaf))) (e162) (.node (.node (.node (.leaf) (e163) (.leaf)) (e165) (.node (.leaf) (e166) (.leaf))) (e167) (.node (.node (.leaf) (e168) (.leaf)) (e169) (.leaf)))) (e170) (.node (.node (.node (.node (.leaf) (e171) (.leaf)) (e172) (.node (.leaf) (e173) (.leaf))) (e174) (.node (.node (.leaf) (e175) (.leaf)) (e176) (.leaf))) (e179) (.node (.node (.node (.leaf) (e180) (.leaf)) (e181) (.node (.leaf) (e182) (.leaf))) (e183) (.node (.node (.leaf) (e188) (.leaf)) (e189) (.leaf)))))) (e190) (.node (.node (.node (.node (.node (.node (.leaf) (e191) (.leaf)) (e192) (.node (.leaf) (e193) (.leaf))) (e194) (.node (.node (.leaf) (g1) (.leaf)) (e198) (.leaf))) (e199) (.node (.node (.node (.leaf) (e202) (.leaf)) (e203) (.node (.leaf) (g26) (.leaf))) (g27) (.node (.node (.leaf) (e206) (.leaf)) (e209) (.leaf)))) (e210) (.node (.node (.node (.node (.leaf) (e211) (.leaf)) (e212) (.node (.leaf) (e213) (.leaf))) (g17) (.node (.node (.leaf) (g5) (.leaf)) (e217) (.leaf))) (e218) (.node (.node (.node (.leaf) (e219) (.leaf)) (g22) (.node (.leaf) (e223) (.leaf))) (e225) (.node (.node (.leaf) (e227) (.leaf)) (e228) (.leaf))))) (e229) (.node (.node (.node (.node (.node (.leaf) (e230) (.leaf)) (e231) (.node (.leaf) (e233) (.leaf))) (e234) (.node (.node (.leaf) (e236) (.leaf)) (e239) (.leaf))) (e240) (.node (.node (.node (.leaf) (g13) (.leaf)) (e242) (.node (.leaf) (e243) (.leaf))) (e244) (.node (.node (.leaf) (e245) (.leaf)) (g11) (.leaf)))) (e247) (.node (.node (.node (.node (.leaf) (e248) (.leaf)) (e249) (.node (.leaf) (e250) (.leaf))) (e252) (.node (.node (.leaf) (e253) (.leaf)) (e254) (.leaf))) (e257) (.node (.node (.node (.leaf) (e258) (.leaf)) (e259) (.node (.leaf) (e260) (.leaf))) (e261) (.node (.node (.leaf) (e262) (.leaf)) (e263) (.leaf)))))))) (e266) (.node (.node (.node (.node (.node (.node (.node (.node (.leaf) (e267) (.leaf)) (e268) (.node (.leaf) (e269) (.leaf))) (e273) (.node (.node (.leaf) (e274) (.leaf)) (e275) (.leaf))) (e276) (.node (.node (.node (.leaf) (e277) (.leaf)) (e278) (.node (.leaf) (e279) (.leaf))) (e280) (.node (.node (.leaf) (g9) (.leaf)) (g8) (.leaf)))) (g7) (.node (.node (.node (.node (.leaf) (e284) (.leaf)) (e285) (.node (.leaf) (e286) (.leaf))) (e287) (.node (.node (.leaf) (e288) (.leaf)) (e290) (.leaf))) (e295) (.node (.node (.node (.leaf) (e298) (.leaf)) (e300) (.node (.leaf) (e301) (.leaf))) (e302) (.node (.node (.leaf) (e303) (.leaf)) (e304) (.leaf))))) (e305) (.node (.node (.node (.node (.node (.leaf) (e306) (.leaf)) (e307) (.node (.leaf) (e308) (.leaf))) (e309) (.node (.node (.leaf) (e310) (.leaf)) (e311) (.leaf))) (e313) (.node (.node (.node (.leaf) (e314) (.leaf)) (e315) (.node (.leaf) (e317) (.leaf))) (e318) (.node (.node (.leaf) (e319) (.leaf)) (e322) (.leaf)))) (e323) (.node (.node (.node (.node (.leaf) (g18) (.leaf)) (e325) (.node (.leaf) (e326) (.leaf))) (e327) (.node (.node (.leaf) (e328) (.leaf)) (e329) (.leaf))) (e330) (.node (.node (.node (.leaf) (e332) (.leaf)) (e333) (.node (.leaf) (e334) (.leaf))) (e335) (.node (.node (.leaf) (g12) (.leaf)) (e337) (.leaf)))))) (g10) (.node (.node (.node (.node (.node (.node (.leaf) (g20) (.leaf)) (e340) (.node (.leaf) (e342) (.leaf))) (e343) (.node (.node (.leaf) (e344) (.leaf)) (e345) (.leaf))) (e346) (.node (.node (.node (.leaf) (e348) (.leaf)) (e349) (.node (.leaf) (e350) (.leaf))) (e351) (.node (.node (.leaf) (e352) (.leaf)) (e353) (.leaf)))) (e354) (.node (.node (.node (.node (.leaf) (e355) (.leaf)) (e362) (.node (.leaf) (e363) (.leaf))) (e364) (.node (.node (.leaf) (e365) (.leaf)) (e366) (.leaf))) (e367) (.node (.node (.node (.leaf) (e368) (.leaf)) (e369) (.node (.leaf) (e370) (.leaf))) (e371) (.node (.node (.leaf) (e372) (.leaf)) (e373) (.leaf))))) (e374) (.node (.node (.node (.node (.node (.leaf) (e375) (.leaf)) (e376) (.node (.leaf) (e381) (.leaf))) (e383) (.node (.node (.leaf) (e384) (.leaf)) (e385) (.leaf))) (e386) (.node (.node (.node (.leaf) (e387) (.leaf)) (e388) (.node (.leaf) (e389) (.leaf))) (e391) (.node (.node (.leaf) (e393) (.leaf)) (e394) (.leaf)))) (e395) (.node (.node (.node (.node (.leaf) (e400) (.leaf)) (e401) (.node (.leaf) (e402) (.leaf))) (e403) (.node (.node (.leaf) (e404) (.leaf)) (e405) (.leaf))) (e407) (.node (.node (.node (.leaf) (e408) (.leaf)) (e409) (.node (.leaf) (g6) (.leaf))) (e411) (.node (.node (.leaf) (e412) (.leaf)) (e413) (.leaf))))))) (e415) (.node (.node (.node (.node (.node (.node (.node (.leaf) (e417) (.leaf)) (g3) (.node (.leaf) (e419) (.leaf))) (e420) (.node (.node (.leaf) (e421) (.leaf)) (e422) (.leaf))) (e423) (.node (.node (.node (.leaf) (g4) (.leaf)) (e425) (.node (.leaf) (e426) (.leaf))) (e427) (.node (.node (.leaf) (e428) (.leaf)) (e429) (.leaf)))) (e430) (.node (.node (.node (.node (.leaf) (e431) (.leaf)) (e432) (.node (.leaf) (e433) (.leaf))) (e434) (.node (.node (.leaf) (e435) (.leaf)) (e446) (.leaf))) (e447) (.node (.node (.node (.leaf) (e448) (.leaf)) (e449) (.node (.leaf) (e450) (.leaf))) (e452) (.node (.node (.leaf) (e456) (.leaf)) (e471) (.leaf))))) (e473) (.node (.node (.node (.node (.node (.leaf) (e474) (.leaf)) (e475) (.node (.leaf) (e476) (.leaf))) (e477) (.node (.node (.leaf) (e479) (.leaf)) (e480) (.leaf))) (e481) (.node (.node (.node (.leaf) (e482) (.leaf)) (e483) (.node (.leaf) (e484) (.leaf))) (e485) (.node (.node (.leaf) (e486) (.leaf)) (e489) (.leaf)))) (e490) (.node (.node (.node (.node (.leaf) (e491) (.leaf)) (g23) (.node (.leaf) (e493) (.leaf))) (e494) (.node (.node (.leaf) (e495) (.leaf)) (e496) (.leaf))) (e500) (.node (.node (.node (.leaf) (e501) (.leaf)) (e502) (.node (.leaf) (g24) (.leaf))) (e505) (.node (.node (.leaf) (e506) (.leaf)) (e507) (.leaf)))))) (e508) (.node (.node (.node (.node (.node (.node (.leaf) (e509) (.leaf)) (e510) (.node (.leaf) (e511) (.leaf))) (e512) (.node (.node (.leaf) (e513) (.leaf)) (e514) (.leaf))) (e515) (.node (.node (.node (.leaf) (e516) (.leaf)) (e517) (.node (.leaf) (e520) (.leaf))) (e521) (.node (.node (.leaf) (e522) (.leaf)) (e529) (.leaf)))) (e531) (.node (.node (.node (.node (.leaf) (e532) (.leaf)) (e534) (.node (.leaf) (e535) (.leaf))) (e536) (.node (.node (.leaf) (e538) (.leaf)) (e539) (.leaf))) (e560) (.node (.node (.node (.leaf) (e563) (.leaf)) (e564) (.node (.leaf) (e565) (.leaf))) (e566) (.node (.node (.leaf) (e567) (.leaf)) (e568) (.leaf))))) (e569) (.node (.node (.node (.node (.node (.leaf) (e570) (.leaf)) (e571) (.node (.leaf) (e572) (.leaf))) (e573) (.node (.node (.leaf) (e574) (.leaf)) (e576) (.leaf))) (e577) (.node (.node (.node (.leaf) (e578) (.leaf)) (e579) (.node (.leaf) (e580) (.leaf))) (e582) (.node (.node (.leaf) (e585) (.leaf)) (e590) (.leaf)))) (e591) (.node (.node (.node (.node (.leaf) (e592) (.leaf)) (e618) (.node (.leaf) (g25) (.leaf))) (e621) (.node (.node (.leaf) (e622) (.leaf)) (g2) (.leaf))) (e628) (.node (.node (.node (.leaf) (e666) (.leaf)) (e767) (.node (.leaf) (e768) (.leaf))) (e769) (.node (.node (.leaf) (e770) (.leaf)) (e771) (.leaf))))))))
end Go.Proofs.YtknjkljigmepjaaGreatDoor
end
section
namespace Go.Proofs.YtknjkljigmepjaaGreatDoor
open Go.Proofs.YtknjkljigmepjaaGreatDoor.Clo Go.RowKit
set_option maxRecDepth 1000000
set_option maxHeartbeats 0
noncomputable def x28_0 : AV := vL [.ag (vL [.i .u8 1,.s [97],.sn,.s []])]
noncomputable def y28_0 : AV := (vI 0)
noncomputable def x28_1 : AV := vL [.ag (vL [.i .u8 1,.s [98,111,100,121],.sn,.s []])]
noncomputable def y28_1 : AV := (vI 0)
noncomputable def x28_2 : AV := vL [.ag (vL [.i .u8 2,.s [98,111,100,121],.sn,.s []])]
noncomputable def y28_2 : AV := (vI 0)
noncomputable def x28_3 : AV := vL [.ag (vL [.i .u8 2,.s [102,101,97,116,117,114,101,115],.sn,.s []])]
noncomputable def y28_3 : AV := (vI 0)
noncomputable def m28 : MTree := .node (.node (.node (.leaf) 257001384 x28_0 y28_0 (.leaf)) 4362493901260280 x28_1 y28_1 (.leaf)) 4362498263730681 x28_2 y28_2 (.node (.leaf) 19031269843258870120126126 x28_3 y28_3 (.leaf))
theorem k28 : m28.all (known tab3 100 403) = true := by kernel_rfl
noncomputable def g28 : Ent Tryz.prog 9 := e403.memo m28 (by kernel_rfl) Tryz.call403 k28
end Go.Proofs.YtknjkljigmepjaaGreatDoor
end
section
namespace Go.Proofs.YtknjkljigmepjaaGreatDoor
open Go.Proofs.YtknjkljigmepjaaGreatDoor.Clo Go.RowKit
set_option maxRecDepth 1000000
set_option maxHeartbeats 0
noncomputable def x29_0 : AV := vL [.s [97]]
noncomputable def y29_0 : AV := (.tu (vL [.ag (vL [.s [],.s [97],.s []]),.b true]))
noncomputable def x29_1 : AV := vL [.s [117,64,97]]
noncomputable def y29_1 : AV := (.tu (vL [.ag (vL [.s [117],.s [97],.s []]),.b true]))
noncomputable def x29_2 : AV := vL [.s [118,64,97]]
noncomputable def y29_2 : AV := (.tu (vL [.ag (vL [.s [118],.s [97],.s []]),.b true]))
noncomputable def m29 : MTree := .node (.node (.leaf) 612 x29_0 y29_0 (.leaf)) 41759771 x29_1 y29_1 (.node (.leaf) 41825820 x29_2 y29_2 (.leaf))
theorem k29 : m29.all (known tab3 100 102) = true := by kernel_rfl
noncomputable def g29 : Ent Tryz.prog 9 := e102.memo m29 (by kernel_rfl) Tryz.call102 k29
end Go.Proofs.YtknjkljigmepjaaGreatDoor
end
section
namespace Go.Proofs.YtknjkljigmepjaaGreatDoor
open Go.Proofs.YtknjkljigmepjaaGreatDoor.Clo Go.RowKit
set_option maxRecDepth 1000000
set_option maxHeartbeats 0
noncomputable def x30_0 : AV := vL [.ag (vL [.i .u8 1,.s [117,114,110,58,105,101,116,102,58,112,97,114,97,109,115,58,120,109,108,58,110,115,58,120,109,112,112,45,98,105,110,100],.s [98,105,110,100],.sn,.s [],vI 0])]
noncomputable def y30_0 : AV := (.b true)
noncomputable def x30_1 : AV := vL [.ag (vL [.i .u8 1,.s [104,116,116,112,58,47,47,101,116,104,101,114,120,46,106,97,98,98,101,114,46,111,114,103,47,115,116,114,101,97,109,115],.s [102,101,97,116,117,114,101,115],.sn,.s [],vI 1])]
noncomputable def y30_1 : AV := (.b true)
noncomputable def m30 : MTree := .node (.node (.leaf) 572263589249132786246378085843057312968542877238987123089078334596945653838833236007504438428581444 x30_0 y30_0 (.leaf)) 2496482843465321173794359044631704127742877702400231030177641035504330315782560445962891597769552591128210507 x30_1 y30_1 (.leaf)
theorem k30 : m30.all (known tab3 100 391) = true := by kernel_rfl
noncomputable def g30 : Ent Tryz.prog 9 := e391.memo m30 (by kernel_rfl) Tryz.call391 k30
end Go.Proofs.YtknjkljigmepjaaGreatDoor
end
section
namespace Go.Proofs.YtknjkljigmepjaaGreatDoor
open Go.Proofs.YtknjkljigmepjaaGreatDoor.Clo Go.RowKit
set_option maxRecDepth 1000000
set_option maxHeartbeats 0
noncomputable def x31_0 : AV := vL [.s [48,48,48,48,48,48,48,48,48,48,48,48,48,48,102,102],.s [117,64,97],.s [97]]
noncomputable def y31_0 : AV := (.b true)
noncomputable def m31 : MTree := .node (.leaf) 3462464764809366690086269136773571217593921738235 x31_0 y31_0 (.leaf)
theorem k31 : m31.all (known tab3 100 242) = true := by kernel_rfl
noncomputable def g31 : Ent Tryz.prog 9 := e242.memo m31 (by kernel_rfl) Tryz.call242 k31
end Go.Proofs.YtknjkljigmepjaaGreatDoor
end
section
namespace Go.Proofs.YtknjkljigmepjaaGreatDoor
open Go.Proofs.YtknjkljigmepjaaGreatDoor.Clo Go.RowKit
set_option maxRecDepth 1000000
set_option maxHeartbeats 0
noncomputable def x32_0 : AV := vL [.s [],.s [117,64,97]]
noncomputable def y32_0 : AV := (.b true)
noncomputable def m32 : MTree := .node (.leaf) 58734364 x32_0 y32_0 (.leaf)
theorem k32 : m32.all (known tab3 100 243) = true := by kernel_rfl
noncomputable def g32 : Ent Tryz.prog 9 := e243.memo m32 (by kernel_rfl) Tryz.call243 k32
end Go.Proofs.YtknjkljigmepjaaGreatDoor
end
section
namespace Go.Proofs.YtknjkljigmepjaaGreatDoor
open Go.Proofs.YtknjkljigmepjaaGreatDoor.Clo Go.RowKit
set_option maxRecDepth 1000000
set_option maxHeartbeats 0
noncomputable def x33_0 : AV := vL [.ag (vL [vI 10,.s [],.s [],.s [],.s [],vI 60,vI 1,vI (-1),vI (-1),vI (-1),vI (-1),.s [],.s [],.b false,.b false,.sn])]
noncomputable def y33_0 : AV := (.tu (vL [.s [60,98,111,100,121,32,120,109,108,110,115,61,34,104,116,116,112,58,47,47,106,97,98,98,101,114,46,111,114,103,47,112,114,111,116,111,99,111,108,47,104,116,116,112,98,105,110,100,34,32,114,105,100,61,34,49,48,34,32,119,97,105,116,61,34,54,48,34,32,104,111,108,100,61,34,49,34,47,62],vI 0]))
noncomputable def x33_1 : AV := vL [.ag (vL [vI 1,.s [120],.s [],.s [],.s [],vI (-1),vI (-1),vI (-1),vI (-1),vI (-1),vI (-1),.s [],.s [],.b false,.b false,.sn])]
noncomputable def y33_1 : AV := (.tu (vL [.s [60,98,111,100,121,32,120,109,108,110,115,61,34,104,116,116,112,58,47,47,106,97,98,98,101,114,46,111,114,103,47,112,114,111,116,111,99,111,108,47,104,116,116,112,98,105,110,100,34,32,114,105,100,61,34,49,34,32,115,105,100,61,34,120,34,47,62],vI 0]))
noncomputable def x33_2 : AV := vL [.ag (vL [vI 10,.s [],.s [97],.s [117,64,97],.s [],vI 60,vI 1,vI (-1),vI (-1),vI (-1),vI (-1),.s [],.s [],.b false,.b false,.sn])]
noncomputable def y33_2 : AV := (.tu (vL [.s [60,98,111,100,121,32,120,109,108,110,115,61,34,104,116,116,112,58,47,47,106,97,98,98,101,114,46,111,114,103,47,112,114,111,116,111,99,111,108,47,104,116,116,112,98,105,110,100,34,32,114,105,100,61,34,49,48,34,32,116,111,61,34,97,34,32,102,114,111,109,61,34,117,64,97,34,32,119,97,105,116,61,34,54,48,34,32,104,111,108,100,61,34,49,34,47,62],vI 0]))
noncomputable def x33_3 : AV := vL [.ag (vL [vI 11,.s [48,48,48,48,48,48,48,48,48,48,48,48,48,48,102,102],.s [],.s [],.s [],vI (-1),vI (-1),vI (-1),vI (-1),vI (-1),vI (-1),.s [],.s [],.b false,.b false,.sn])]
noncomputable def y33_3 : AV := (.tu (vL [.s [60,98,111,100,121,32,120,109,108,110,115,61,34,104,116,116,112,58,47,47,106,97,98,98,101,114,46,111,114,103,47,112,114,111,116,111,99,111,108,47,104,116,116,112,98,105,110,100,34,32,114,105,100,61,34,49,49,34,32,115,105,100,61,34,48,48,48,48,48,48,48,48,48,48,48,48,48,48,102,102,34,47,62],vI 0]))
noncomputable def x33_4 : AV := vL [.ag (vL [vI 11,.s [48,48,48,48,48,48,48,48,48,48,48,48,48,48,102,102],.s [],.s [],.s [],vI (-1),vI (-1),vI (-1),vI (-1),vI (-1),vI (-1),.s [],.s [],.b true,.b false,.sn])]
noncomputable def y33_4 : AV := (.tu (vL [.s [60,98,111,100,121,32,120,109,108,110,115,61,34,104,116,116,112,58,47,47,106,97,98,98,101,114,46,111,114,103,47,112,114,111,116,111,99,111,108,47,104,116,116,112,98,105,110,100,34,32,114,105,100,61,34,49,49,34,32,115,105,100,61,34,48,48,48,48,48,48,48,48,48,48,48,48,48,48,102,102,34,32,116,121,112,101,61,34,116,101,114,109,105,110,97,116,101,34,47,62],vI 0]))
noncomputable def x33_5 : AV := vL [.ag (vL [vI 12,.s [48,48,48,48,48,48,48,48,48,48,48,48,48,48,102,102],.s [],.s [],.s [],vI (-1),vI (-1),vI (-1),vI (-1),vI (-1),vI 121,.s [],.s [],.b false,.b false,.sn])]
noncomputable def y33_5 : AV := (.tu (vL [.s [60,98,111,100,121,32,120,109,108,110,115,61,34,104,116,116,112,58,47,47,106,97,98,98,101,114,46,111,114,103,47,112,114,111,116,111,99,111,108,47,104,116,116,112,98,105,110,100,34,32,114,105,100,61,34,49,50,34,32,115,105,100,61,34,48,48,48,48,48,48,48,48,48,48,48,48,48,48,102,102,34,32,112,97,117,115,101,61,34,49,50,49,34,47,62],vI 0]))
noncomputable def x33_6 : AV := vL [.ag (vL [vI 11,.s [48,48,48,48,48,48,48,48,48,48,48,48,48,48,102,102],.s [],.s [],.s [],vI (-1),vI (-1),vI (-1),vI (-1),vI (-1),vI (-1),.s [100,97,51,57,97,51,101,101,53,101,54,98,52,98,48,100,51,50,53,53,98,102,101,102,57,53,54,48,49,56,57,48,97,102,100,56,48,55,48,57],.s [],.b false,.b false,.sn])]
noncomputable def y33_6 : AV := (.tu (vL [.s [60,98,111,100,121,32,120,109,108,110,115,61,34,104,116,116,112,58,47,47,106,97,98,98,101,114,46,111,114,103,47,112,114,111,116,111,99,111,108,47,104,116,116,112,98,105,110,100,34,32,114,105,100,61,34,49,49,34,32,115,105,100,61,34,48,48,48,48,48,48,48,48,48,48,48,48,48,48,102,102,34,32,107,101,121,61,34,100,97,51,57,97,51,101,101,53,101,54,98,52,98,48,100,51,50,53,53,98,102,101,102,57,53,54,48,49,56,57,48,97,102,100,56,48,55,48,57,34,47,62],vI 0]))
noncomputable def m33 : MTree := .node (.node (.node (.leaf) 9000315004509033624142272345393449613243864 x33_0 y33_0 (.leaf)) 2313054315540524961108658980782795180007247743 x33_1 y33_1 (.node (.leaf) 39263544473541545208932929801501494742746793945064115 x33_2 y33_2 (.leaf))) 3259769541719917759306127179212440950039219212519460961929190983338615848685433644 x33_3 y33_3 (.node (.node (.leaf) 3259769541719917759306127179212440950039219212519460961929190983338615848685433647 x33_4 y33_4 (.leaf)) 3259772801439939748108595654090015479326480196308703429534774571978880424211178885 x33_5 y33_5 (.node (.leaf) 8137890292009313495853445208576539916081473647109444622016362590301550226226965739121342617815260740012841681946347190038792037315387618500438430296191742852689866246188136339434 x33_6 y33_6 (.leaf)))
theorem k33 : m33.all (known tab3 100 188) = true := by kernel_rfl
noncomputable def g33 : Ent Tryz.prog 9 := e188.memo m33 (by kernel_rfl) Tryz.call188 k33
end Go.Proofs.YtknjkljigmepjaaGreatDoor
end
section
namespace Go.Proofs.YtknjkljigmepjaaGreatDoor
open Go.Proofs.YtknjkljigmepjaaGreatDoor.Clo Go.RowKit
set_option maxRecDepth 1000000
set_option maxHeartbeats 0
noncomputable def x34_0 : AV := vL [.s [60,98,111,100,121,32,120,109,108,110,115,61,34,104,116,116,112,58,47,47,106,97,98,98,101,114,46,111,114,103,47,112,114,111,116,111,99,111,108,47,104,116,116,112,98,105,110,100,34,32,114,105,100,61,34,49,34,32,115,105,100,61,34,120,34,47,62]]
noncomputable def y34_0 : AV := (.tu (vL [.ag (vL [vI 1,.s [120],.s [],.s [],.s [],vI (-1),vI (-1),vI (-1),vI (-1),vI (-1),vI (-1),.s [],.s [],.b false,.b false,.sn]),vI 0]))
noncomputable def x34_1 : AV := vL [.s [60,98,111,100,121,32,120,109,108,110,115,61,34,104,116,116,112,58,47,47,106,97,98,98,101,114,46,111,114,103,47,112,114,111,116,111,99,111,108,47,104,116,116,112,98,105,110,100,34,32,114,105,100,61,34,49,49,34,32,115,105,100,61,34,48,48,48,48,48,48,48,48,48,48,48,48,48,48,102,102,34,47,62]]
noncomputable def y34_1 : AV := (.tu (vL [.ag (vL [vI 11,.s [48,48,48,48,48,48,48,48,48,48,48,48,48,48,102,102],.s [],.s [],.s [],vI (-1),vI (-1),vI (-1),vI (-1),vI (-1),vI (-1),.s [],.s [],.b false,.b false,.sn]),vI 0]))
noncomputable def x34_2 : AV := vL [.s [60,98,111,100,121,32,120,109,108,110,115,61,34,104,116,116,112,58,47,47,106,97,98,98,101,114,46,111,114,103,47,112,114,111,116,111,99,111,108,47,104,116,116,112,98,105,110,100,34,32,114,105,100,61,34,49,50,34,32,115,105,100,61,34,48,48,48,48,48,48,48,48,48,48,48,48,48,48,102,102,34,32,112,97,117,115,101,61,34,49,50,49,34,47,62]]
noncomputable def y34_2 : AV := (.tu (vL [.ag (vL [vI 12,.s [48,48,48,48,48,48,48,48,48,48,48,48,48,48,102,102],.s [],.s [],.s [],vI (-1),vI (-1),vI (-1),vI (-1),vI (-1),vI 121,.s [],.s [],.b false,.b false,.sn]),vI 0]))
noncomputable def x34_3 : AV := vL [.s [60,98,111,100,121,32,120,109,108,110,115,61,34,104,116,116,112,58,47,47,106,97,98,98,101,114,46,111,114,103,47,112,114,111,116,111,99,111,108,47,104,116,116,112,98,105,110,100,34,32,114,105,100,61,34,49,48,34,32,116,111,61,34,97,34,32,102,114,111,109,61,34,117,64,97,34,32,119,97,105,116,61,34,54,48,34,32,104,111,108,100,61,34,49,34,47,62]]
noncomputable def y34_3 : AV := (.tu (vL [.ag (vL [vI 10,.s [],.s [97],.s [117,64,97],.s [],vI 60,vI 1,vI (-1),vI (-1),vI (-1),vI (-1),.s [],.s [],.b false,.b false,.sn]),vI 0]))
noncomputable def x34_4 : AV := vL [.s [60,98,111,100,121,32,120,109,108,110,115,61,34,104,116,116,112,58,47,47,106,97,98,98,101,114,46,111,114,103,47,112,114,111,116,111,99,111,108,47,104,116,116,112,98,105,110,100,34,32,114,105,100,61,34,49,49,34,32,115,105,100,61,34,48,48,48,48,48,48,48,48,48,48,48,48,48,48,102,102,34,32,116,121,112,101,61,34,116,101,114,109,105,110,97,116,101,34,47,62]]
noncomputable def y34_4 : AV := (.tu (vL [.ag (vL [vI 11,.s [48,48,48,48,48,48,48,48,48,48,48,48,48,48,102,102],.s [],.s [],.s [],vI (-1),vI (-1),vI (-1),vI (-1),vI (-1),vI (-1),.s [],.s [],.b true,.b false,.sn]),vI 0]))
noncomputable def x34_5 : AV := vL [.s [60,98,111,100,121,32,120,109,108,110,115,61,34,104,116,116,112,58,47,47,106,97,98,98,101,114,46,111,114,103,47,112,114,111,116,111,99,111,108,47,104,116,116,112,98,105,110,100,34,32,114,105,100,61,34,49,49,34,32,115,105,100,61,34,48,48,48,48,48,48,48,48,48,48,48,48,48,48,102,102,34,32,107,101,121,61,34,100,97,51,57,97,51,101,101,53,101,54,98,52,98,48,100,51,50,53,53,98,102,101,102,57,53,54,48,49,56,57,48,97,102,100,56,48,55,48,57,34,47,62]]
noncomputable def y34_5 : AV := (.tu (vL [.ag (vL [vI 11,.s [48,48,48,48,48,48,48,48,48,48,48,48,48,48,102,102],.s [],.s [],.s [],vI (-1),vI (-1),vI (-1),vI (-1),vI (-1),vI (-1),.s [100,97,51,57,97,51,101,101,53,101,54,98,52,98,48,100,51,50,53,53,98,102,101,102,57,53,54,48,49,56,57,48,97,102,100,56,48,55,48,57],.s [],.b false,.b false,.sn]),vI 0]))
noncomputable def m34 : MTree := .node (.node (.node (.leaf) 653952375453827309882007362465685174755897763684960498490768760078613119225979124794671332006906458573730284309791364720365553362368825148588270513002319718732602 x34_0 y34_0 (.leaf)) 236851475718570829293281543735389457502842183519540499466004344035865793686605990696161666508279270731834259627142211893463467712753500596717624203089253571222234592747875284818510717622086606226172271 x34_1 y34_1 (.node (.leaf) 19664077398678760220869588693178452575639955480112868921530629614779726967272381556122758980253471482648202632094146403785575402537162178685548655959397583398764480274898933182868753429139526949866150199902914182549351700802897871 x34_2 y34_2 (.leaf))) 1298792648105333433828215463595743614168443419505974879398176555426586186461373529400352107886761537957431135647186275823633469762177024735008879633208712782980450119384145263541107037959561000794228968223197140342373078929769769380020 x34_3 y34_3 (.node (.node (.leaf) 22046476592980256168526389410844064382858360489642184646008131970508241894603925882544511088069867194881444853138778627291917930390761788870085004404984343037593133273534400747763970229099941839822190729625286867371176339705119053754370594732 x34_4 y34_4 (.leaf)) 43785759927422700414826184268283984557222011891729016805714500076506979478472918820740112566328783435716226074420193082624658396203731394499932823361734718477624152541909174076093231080368807181273410377006600525568280622290610951315346828812699050644863608772024088379436683802017059646386016428482694053103962286 x34_5 y34_5 (.leaf))
theorem k34 : m34.all (known tab3 100 236) = true := by kernel_rfl
noncomputable def g34 : Ent Tryz.prog 9 := e236.memo m34 (by kernel_rfl) Tryz.call236 k34
end Go.Proofs.YtknjkljigmepjaaGreatDoor
end
