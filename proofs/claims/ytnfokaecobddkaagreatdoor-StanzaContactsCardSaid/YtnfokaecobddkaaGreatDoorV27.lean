/- The call of the law StanzaContacts returns true at every roster and number of a contact; the arguments read behind the call as they read before. Conditions: the tables and the errors of the library read as its text lays them. -/
import Derived.Test.YtnfokaecobddkaaGreatDoorV26
import Derived.Test.YtnfokaecobddkaaGreatDoorV19
import Derived.Deep.Cut
import Derived.Test.YtnfokaecobddkaaGreatDoorV15
import Derived.Test.YtnfokaecobddkaaGreatDoorV13
import Derived.Test.YtnfokaecobddkaaGreatDoorV12
import Derived.Deep.DeepCutAuto
import Derived.Test.YtnfokaecobddkaaGreatDoorV10
import Derived.Lib.SmallJoins
import Derived.Test.YtnfokaecobddkaaGreatDoorV01
import Derived.WalkKit
import Derived.ProofKit
import Derived.OpenShut
import Derived.ShutString
import Derived.ChangeOld
import Derived.Below
import Derived.Deep.DeepHandedRow
import Derived.Deep.DeepWitnessRowRef
import Derived.SizedLaws
import Derived.Shelf.LaysM
import Derived.LaidMore
import Derived.LaidSub
import Derived.MakeChecks
import Derived.Lib.LaidTab
import Derived.LaidOnce
import Derived.Stop.Joined
import Derived.Lib.LaidU8
import Derived.Lib.DecodeN
import Derived.JoinedCond
import Derived.Test.YtnfokaecobddkaaGreatDoorCards
import Derived.Test.YtnfokaecobddkaaGreatDoorTie
import Derived.SevenTiedAt
set_option linter.all false
section
namespace Go.Proofs.YtnfokaecobddkaaGreatDoor
open Go.Proofs.YtnfokaecobddkaaGreatDoor.Clo Go.RowKit
set_option maxRecDepth 100000
set_option maxHeartbeats 0
noncomputable def m4:MTree:=.node (.node (.node (.node (.leaf) 612 (.cons (.s [97]) (.nil)) (.b true) (.leaf)) 159441 (.cons (.s [105,100]) (.nil)) (.b true) (.leaf)) 159454 (.cons (.s [105,113]) (.nil)) (.b true) (.node (.leaf) 10719055304 (.cons (.s [116,121,112,101]) (.nil)) (.b true) (.leaf))) 2741641180477 (.cons (.s [113,117,101,114,121]) (.nil)) (.b true) (.node (.node (.leaf) 2772043137849 (.cons (.s [120,109,108,110,115]) (.nil)) (.b true) (.leaf)) 46463327624712887903 (.cons (.s [112,114,101,115,101,110,99,101]) (.nil)) (.b true) (.node (.leaf) 46463332092102922380 (.cons (.s [112,114,105,111,114,105,116,121]) (.nil)) (.b true) (.leaf)))
theorem k4:m4.all (known tab3 100 119)=true:=by kernel_rfl
noncomputable def g4:Ent Tryz.prog 9:=e119.memo m4 (by kernel_rfl) Tryz.call119 k4
noncomputable def tab4:FTree Tryz.prog 9:=.node (.node (.node (.node (.node (.node (.node (.leaf) (e7) (.leaf)) (e11) (.node (.leaf) (e13) (.leaf))) (e18) (.node (.node (.leaf) (e21) (.leaf)) (e22) (.node (.leaf) (e25) (.leaf)))) (g3) (.node (.node (.node (.leaf) (e29) (.leaf)) (g2) (.node (.leaf) (e31) (.leaf))) (e32) (.node (.node (.leaf) (e33) (.leaf)) (e34) (.node (.leaf) (e35) (.leaf))))) (e36) (.node (.node (.node (.node (.leaf) (e37) (.leaf)) (e38) (.node (.leaf) (e39) (.leaf))) (e46) (.node (.node (.leaf) (e47) (.leaf)) (e49) (.node (.leaf) (e51) (.leaf)))) (e52) (.node (.node (.node (.leaf) (e62) (.leaf)) (e63) (.node (.leaf) (e64) (.leaf))) (e65) (.node (.node (.leaf) (e66) (.leaf)) (e68) (.node (.leaf) (e70) (.leaf)))))) (e71) (.node (.node (.node (.node (.node (.leaf) (e72) (.leaf)) (e73) (.node (.leaf) (e74) (.leaf))) (e75) (.node (.node (.leaf) (e76) (.leaf)) (e77) (.node (.leaf) (e78) (.leaf)))) (e79) (.node (.node (.node (.leaf) (e80) (.leaf)) (e81) (.node (.leaf) (e83) (.leaf))) (e84) (.node (.node (.leaf) (e85) (.leaf)) (e92) (.node (.leaf) (e95) (.leaf))))) (e96) (.node (.node (.node (.node (.leaf) (e97) (.leaf)) (e102) (.node (.leaf) (e103) (.leaf))) (e104) (.node (.node (.leaf) (e105) (.leaf)) (e107) (.node (.leaf) (e115) (.leaf)))) (e116) (.node (.node (.node (.leaf) (e117) (.leaf)) (e118) (.node (.leaf) (g4) (.leaf))) (e120) (.node (.node (.leaf) (e121) (.leaf)) (e122) (.leaf)))))) (g1) (.node (.node (.node (.node (.node (.node (.leaf) (e125) (.leaf)) (e126) (.node (.leaf) (e127) (.leaf))) (e128) (.node (.node (.leaf) (e131) (.leaf)) (e132) (.node (.leaf) (e146) (.leaf)))) (e148) (.node (.node (.node (.leaf) (e149) (.leaf)) (e150) (.node (.leaf) (e151) (.leaf))) (e152) (.node (.node (.leaf) (e162) (.leaf)) (e164) (.node (.leaf) (e165) (.leaf))))) (e168) (.node (.node (.node (.node (.leaf) (e173) (.leaf)) (e174) (.node (.leaf) (e175) (.leaf))) (e176) (.node (.node (.leaf) (e177) (.leaf)) (e184) (.node (.leaf) (e185) (.leaf)))) (e186) (.node (.node (.node (.leaf) (e187) (.leaf)) (e188) (.node (.leaf) (e189) (.leaf))) (e190) (.node (.node (.leaf) (e191) (.leaf)) (e192) (.node (.leaf) (e193) (.leaf)))))) (e194) (.node (.node (.node (.node (.node (.leaf) (e195) (.leaf)) (e196) (.node (.leaf) (e197) (.leaf))) (e201) (.node (.node (.leaf) (e202) (.leaf)) (e203) (.node (.leaf) (e204) (.leaf)))) (e208) (.node (.node (.node (.leaf) (e219) (.leaf)) (e220) (.node (.leaf) (e221) (.leaf))) (e222) (.node (.node (.leaf) (e223) (.leaf)) (e225) (.node (.leaf) (e226) (.leaf))))) (e227) (.node (.node (.node (.node (.leaf) (e228) (.leaf)) (e229) (.node (.leaf) (e230) (.leaf))) (e231) (.node (.node (.leaf) (e232) (.leaf)) (e241) (.node (.leaf) (e242) (.leaf)))) (e243) (.node (.node (.node (.leaf) (e244) (.leaf)) (e246) (.node (.leaf) (e251) (.leaf))) (e252) (.node (.node (.leaf) (e253) (.leaf)) (e261) (.leaf))))))
end Go.Proofs.YtnfokaecobddkaaGreatDoor
end
section
namespace Go.Proofs.YtnfokaecobddkaaGreatDoor
open Go.Proofs.YtnfokaecobddkaaGreatDoor.Clo Go.RowKit
set_option maxRecDepth 100000
set_option maxHeartbeats 0
theorem run_:runTrue tab4 100 7=true:=by kernel_rfl
theorem alive_any (w:World) (hw:9≤w.heap.size):Calls Tryz.prog 7 #[] w fun e w'=>e=.returned (.bool true)∧Below w.heap.size w w':=calls_true (by kernel_rfl) Tryz.call7 run_ w hw
end Go.Proofs.YtnfokaecobddkaaGreatDoor
end
section
namespace Go.Proofs.YtnfokaecobddkaaGreatDoor
open Go.RowKit
set_option linter.unusedSimpArgs false
set_option linter.unusedVariables false
theorem rosErrV_yes {l:List ItemL} {rv:Int} (h:rosErrV l rv=0):rosI l=true∧0≤rv∧rv≤9007199254740991:=by
 unfold rosErrV at h
 split at h
 ·rename_i h1
  simp only [Bool.and_eq_true,decide_eq_true_eq] at h1
  exact⟨h1.1,h1.2.1,h1.2.2⟩
 ·omega
set_option maxHeartbeats 32000000 in
set_option maxRecDepth 100000 in
theorem stanzacontacts_walk (l:List ItemL) (rv:Int) (A:Option Addr) (c:Nat) (kk:Int) (w:World) (hr:RdI w A l) (hc:l.length≤c) (hg:Glb w) (hp:Pow w) (h9:9≤w.heap.size) :
  Calls Tryz.prog 5 #[.agg #[.slice A l.length c,.int .i64 rv],.int .i64 kk] w fun e w'=>e=.returned (.bool true)∧Below w.heap.size w w':=by
 obtain⟨W0,hW0⟩:∃W0,W0=w.alloc (.cells #[.slice A l.length c,.int .i64 rv] 41):=⟨_,rfl⟩
 have hX0:Below w.heap.size w W0:=by rw [hW0];exact(Below.refl _ _).alloc (Nat.le_refl _) _
 have R:Hid (Row W0 w.heap.size #[.slice A l.length c,.int .i64 rv]):=Lib.hid (by rw [hW0];exact Row.new w _ _)
 have RL:=Lib.hid (hr.ext hX0)
 have GL:=Lib.hid (hg.below hX0)
 have PW:=Lib.hid (hp.below hX0)
 have X:=Lib.hid hX0
 have HCL:=Lib.hid hc
 have HC:=Lib.hid (alive_any W0 (Nat.le_trans h9 hX0.size))
 clear hX0 hr hc hg hp h9
 go_enter Tryz.func5,Tryz.ntmps5
 go_upto_region 1 with fail
 rw [←hW0]
 clear hW0
 go_wp2_with fail
 refine HC.out.mono ?_
 rintro e w1 ⟨rfl,hb⟩
 replace R:=Lib.hid (R.out.ext hb)
 replace RL:=Lib.hid (RL.out.ext hb)
 replace GL:=Lib.hid (GL.out.below hb)
 replace PW:=Lib.hid (PW.out.below hb)
 replace X:=Lib.hid (X.out.trans (hb.mono X.out.size))
 clear hb HC
 have HC:=Lib.hid (refgreat21_any l rv A c w1 RL.out HCL.out)
 unfold GreatK at HC
 have a0:w1.cell? ⟨w.heap.size,0,none⟩=some _:=R.out.at' 0 rfl
 have a1:w1.cell? ⟨w.heap.size,1,none⟩=some _:=R.out.at' 1 rfl
 go_wp2_with fail
 refine HC.out.mono ?_
 rintro e w2 ⟨g1,rfl,hb,hgs⟩
 have HGS:=Lib.hid hgs
 clear hgs
 replace R:=Lib.hid (R.out.ext hb)
 replace RL:=Lib.hid (RL.out.ext hb)
 replace GL:=Lib.hid (GL.out.below hb)
 replace PW:=Lib.hid (PW.out.below hb)
 replace X:=Lib.hid (X.out.trans (hb.mono X.out.size))
 clear hb HC a0 a1
 cases g1 with
 | true=>
  go_wp2
  go_ret
  exact⟨rfl,X.out⟩
 | false=>
  have HZ:=Lib.hid (HGS.out rfl).szl
  have hln:=HZ.out.1
  clear HGS
  have HC:=Lib.hid (rcheckv_any l rv A c w2 HZ.out RL.out HCL.out GL.out)
  have a0:w2.cell? ⟨w.heap.size,0,none⟩=some _:=R.out.at' 0 rfl
  have a1:w2.cell? ⟨w.heap.size,1,none⟩=some _:=R.out.at' 1 rfl
  go_wp2_with fail
  refine HC.out.mono ?_
  rintro e w3 ⟨rfl,hb⟩
  replace R:=Lib.hid (R.out.ext hb)
  replace RL:=Lib.hid (RL.out.ext hb)
  replace GL:=Lib.hid (GL.out.below hb)
  replace PW:=Lib.hid (PW.out.below hb)
  replace X:=Lib.hid (X.out.trans (hb.mono X.out.size))
  clear hb HC a0 a1
  by_cases hok:rosErrV l rv=0
  ·obtain⟨hri,hv0,hv1⟩:=rosErrV_yes hok
   have HRI:=Lib.hid hri
   have HV:=Lib.hid (And.intro hv0 hv1)
   rw [hok]
   clear hok hri hv0 hv1
   by_cases hk0:kk < 0
   ·go_wp2
    go_ret
    exact⟨rfl,X.out⟩
   ·by_cases hk1:(l.length:Int)≤kk
    ·have a0:w3.cell? ⟨w.heap.size,0,none⟩=some _:=R.out.at' 0 rfl
     have a1:w3.cell? ⟨w.heap.size,1,none⟩=some _:=R.out.at' 1 rfl
     go_wp2
     go_ret
     exact⟨rfl,X.out⟩
    ·obtain⟨k,rfl⟩:∃k:Nat,kk=(k:Int):=⟨kk.toNat,by omega⟩
     have hlt:k < l.length:=by omega
     obtain⟨x,hx⟩:∃x,l[k]? = some x:=⟨_,List.getElem?_eq_getElem hlt⟩
     have HIX:=Lib.hid ((rosI_item HRI.out).2 x (List.mem_of_getElem? hx))
     have HZX:=Lib.hid (szl_one HZ.out (List.mem_of_getElem? hx))
     have hgx:x.groups.length≤1000:=(HZX.out.2 x (by simp)).2.2.1
     obtain⟨b,off,rfl,hb,hcc⟩:=RL.out (by omega)
     obtain⟨A',c',hcell,hl',hA'⟩:=hcc k x hx
     have d0:=hcell 0 _ rfl
     have d1:=hcell 1 _ rfl
     have d2:=hcell 2 _ rfl
     have d3:=hcell 3 _ rfl
     have d4:=hcell 4 _ rfl
     have d5:=hcell 5 _ rfl
     have d6:=hcell 6 _ rfl
     have d7:=hcell 7 _ rfl
     rw [Nat.add_zero] at d0
     dsimp only [cI] at d0 d1 d2 d3 d4 d5 d6 d7
     obtain⟨W4,hW4⟩:∃W4,W4=w3.alloc (.cells (cI x A' c') 48):=⟨_,rfl⟩
     have hX4:Below w3.heap.size w3 W4:=by rw [hW4];exact(Below.refl _ _).alloc (Nat.le_refl _) _
     have RG:=Lib.hid (RdS.ext hA' hX4)
     have I:Hid (Row W4 w3.heap.size (cI x A' c')):=Lib.hid (by rw [hW4];exact Row.new w3 _ _)
     have HL':=Lib.hid hl'
     have a0:w3.cell? ⟨w.heap.size,0,none⟩=some _:=R.out.at' 0 rfl
     have a1:w3.cell? ⟨w.heap.size,1,none⟩=some _:=R.out.at' 1 rfl
     unfold cI at hW4
     go_upto_region 5 with fail
     rw [←hW4]
     clear hW4 d0 d1 d2 d3 d4 d5 d6 d7 hcc hcell hA' hx hb a0 a1
     replace R:=Lib.hid (R.out.ext hX4)
     replace RL:=Lib.hid (RL.out.ext hX4)
     replace GL:=Lib.hid (GL.out.below hX4)
     replace PW:=Lib.hid (PW.out.below hX4)
     replace X:=Lib.hid (X.out.trans (hX4.mono X.out.size))
     clear hX4 RL HRI HZ
     generalize w3.heap.size=g4 at *
     clear hk0 hk1
     have TSa:=Lib.hid (told_set HIX.out false HV.out.1 HV.out.2)
     have ZVa:=Lib.hid (told_szv HIX.out HZX.out false rv)
     obtain⟨va,hva⟩:∃va,va=queryV [x] false rv:=⟨_,rfl⟩
     rw [←hva] at TSa ZVa
     have hzla:=ZVa.out.1
     clear hva
     obtain⟨W4r,hWr,hrr,hb⟩:=one_row W4 x A' c' RG.out HL'.out
     have RR:=Lib.hid hrr
     have J:=Lib.hid (show Row W4 g4 #[.string x.jid,.string x.name,.slice A' x.groups.length c',.bool x.to,.bool x.out,.bool x.frm,.bool x.inn,.bool x.known] from I.out)
     have e0:W4.cell? ⟨g4,0,none⟩=some _:=J.out.at' 0 rfl
     have e1:W4.cell? ⟨g4,1,none⟩=some _:=J.out.at' 1 rfl
     have e2:W4.cell? ⟨g4,2,none⟩=some _:=J.out.at' 2 rfl
     have e3:W4.cell? ⟨g4,3,none⟩=some _:=J.out.at' 3 rfl
     have e4:W4.cell? ⟨g4,4,none⟩=some _:=J.out.at' 4 rfl
     have e5:W4.cell? ⟨g4,5,none⟩=some _:=J.out.at' 5 rfl
     have e6:W4.cell? ⟨g4,6,none⟩=some _:=J.out.at' 6 rfl
     have e7:W4.cell? ⟨g4,7,none⟩=some _:=J.out.at' 7 rfl
     clear J hrr
     have e8:=(R.out.ext hb).at' 1 rfl
     unfold cI at hWr
     rw [hWr] at e8
     replace R:=Lib.hid (R.out.ext hb)
     replace GL:=Lib.hid (GL.out.below hb)
     replace PW:=Lib.hid (PW.out.below hb)
     replace X:=Lib.hid (X.out.trans (hb.mono X.out.size))
     replace RG:=Lib.hid (RG.out.ext hb)
     replace I:=Lib.hid (I.out.ext hb)
     clear hb
     have HC:=Lib.hid (sroster_any [x] false rv (some ⟨W4.heap.size,0,none⟩) 1 W4r HZX.out RR.out (Nat.le_refl _) GL.out PW.out)
     unfold RosPost at HC
     rw [TSa.out.1,TSa.out.2.1] at HC
     go_wp2_with fail
     rw [←hWr]
     refine HC.out.mono ?_
     rintro e W4n ⟨Aa,ca,rfl,hla,hna,hb⟩
     have RVa:=Lib.hid hna.rdv
     have HLa:=Lib.hid hla
     clear hla hna HC RR hWr e0 e1 e2 e3 e4 e5 e6 e7 e8
     replace R:=Lib.hid (R.out.ext hb)
     replace GL:=Lib.hid (GL.out.below hb)
     replace PW:=Lib.hid (PW.out.below hb)
     replace X:=Lib.hid (X.out.trans (hb.mono X.out.size))
     replace RG:=Lib.hid (RG.out.ext hb)
     replace I:=Lib.hid (I.out.ext hb)
     clear hb
     go_upto_region 6 with fail
     obtain⟨Wa,hWa,hra,hb⟩:=set_load W4n va Aa ca RVa.out HLa.out
     have RQa:=Lib.hid hra
     clear hra
     replace R:=Lib.hid (R.out.ext hb)
     replace GL:=Lib.hid (GL.out.below hb)
     replace PW:=Lib.hid (PW.out.below hb)
     replace X:=Lib.hid (X.out.trans (hb.mono X.out.size))
     replace RG:=Lib.hid (RG.out.ext hb)
     replace I:=Lib.hid (I.out.ext hb)
     clear hb
     have HC:=Lib.hid (ask_any (setS va) (some ⟨W4n.heap.size,0,none⟩) 1 Wa (set_sz ZVa.out) RQa.out GL.out (fun _=>by
      have h:=TSa.out.2.2.2.2
      unfold askR at h
      rw [if_pos TSa.out.2.2.2.1] at h
      rw [h]
      show(0:Nat)≤_
      omega))
     unfold AskP at HC
     rw [TSa.out.2.2.2.1,TSa.out.2.2.2.2] at HC
     unfold encS setS at HC
     go_wp2_with fail
     rw [←hWa]
     refine HC.out.mono ?_
     rintro e W4nq ⟨Aaq,caq,rfl,-,hga,hb⟩
     have RWa:Hid (RdS W4nq Aaq (wantX x).groups):=Lib.hid hga.rds
     clear hga hWa RQa RVa HLa
     replace R:=Lib.hid (R.out.ext hb)
     replace GL:=Lib.hid (GL.out.below hb)
     replace PW:=Lib.hid (PW.out.below hb)
     replace X:=Lib.hid (X.out.trans (hb.mono X.out.size))
     replace RG:=Lib.hid (RG.out.ext hb)
     replace I:=Lib.hid (I.out.ext hb)
     clear hb HC
     obtain⟨W6,hWa⟩:∃W6,W6=W4nq.alloc (.cells #[.int .u8 3,.string ⟨#[]⟩,.string x.jid,.string x.name,.slice Aaq x.groups.length caq,.bool false,.bool false,.bool false,.bool false,.bool false,.bool false] 51):=⟨_,rfl⟩
     have hb:Below W4nq.heap.size W4nq W6:=by rw [hWa];exact(Below.refl _ _).alloc (Nat.le_refl _) _
     have Da:Hid (Row W6 W4nq.heap.size #[.int .u8 3,.string ⟨#[]⟩,.string x.jid,.string x.name,.slice Aaq x.groups.length caq,.bool false,.bool false,.bool false,.bool false,.bool false,.bool false]):=Lib.hid (by rw [hWa];exact Row.new _ _ _)
     replace R:=Lib.hid (R.out.ext hb)
     replace GL:=Lib.hid (GL.out.below hb)
     replace PW:=Lib.hid (PW.out.below hb)
     replace X:=Lib.hid (X.out.trans (hb.mono X.out.size))
     replace RG:=Lib.hid (RG.out.ext hb)
     replace I:=Lib.hid (I.out.ext hb)
     replace RWa:=Lib.hid (RWa.out.ext hb)
     clear hb
     unfold encW askX wantX goneX emB
     dsimp only [List.length_nil]
     go_upto_region 7 with fail
     rw [←hWa]
     clear hWa
     generalize W4nq.heap.size=gda at *
     have TSb:=Lib.hid (told_set HIX.out true HV.out.1 HV.out.2)
     have ZVb:=Lib.hid (told_szv HIX.out HZX.out true rv)
     obtain⟨vb,hvb⟩:∃vb,vb=queryV [x] true rv:=⟨_,rfl⟩
     rw [←hvb] at TSb ZVb
     have hzlb:=ZVb.out.1
     clear hvb
     obtain⟨W6r,hWr,hrr,hb⟩:=one_row W6 x A' c' RG.out HL'.out
     have RR:=Lib.hid hrr
     have J:=Lib.hid (show Row W6 g4 #[.string x.jid,.string x.name,.slice A' x.groups.length c',.bool x.to,.bool x.out,.bool x.frm,.bool x.inn,.bool x.known] from I.out)
     have e0:W6.cell? ⟨g4,0,none⟩=some _:=J.out.at' 0 rfl
     have e1:W6.cell? ⟨g4,1,none⟩=some _:=J.out.at' 1 rfl
     have e2:W6.cell? ⟨g4,2,none⟩=some _:=J.out.at' 2 rfl
     have e3:W6.cell? ⟨g4,3,none⟩=some _:=J.out.at' 3 rfl
     have e4:W6.cell? ⟨g4,4,none⟩=some _:=J.out.at' 4 rfl
     have e5:W6.cell? ⟨g4,5,none⟩=some _:=J.out.at' 5 rfl
     have e6:W6.cell? ⟨g4,6,none⟩=some _:=J.out.at' 6 rfl
     have e7:W6.cell? ⟨g4,7,none⟩=some _:=J.out.at' 7 rfl
     clear J hrr
     have e8:=(R.out.ext hb).at' 1 rfl
     unfold cI at hWr
     rw [hWr] at e8
     replace R:=Lib.hid (R.out.ext hb)
     replace GL:=Lib.hid (GL.out.below hb)
     replace PW:=Lib.hid (PW.out.below hb)
     replace X:=Lib.hid (X.out.trans (hb.mono X.out.size))
     replace RG:=Lib.hid (RG.out.ext hb)
     replace I:=Lib.hid (I.out.ext hb)
     replace RWa:=Lib.hid (RWa.out.ext hb)
     replace Da:=Lib.hid (Da.out.ext hb)
     clear hb
     have HC:=Lib.hid (sroster_any [x] true rv (some ⟨W6.heap.size,0,none⟩) 1 W6r HZX.out RR.out (Nat.le_refl _) GL.out PW.out)
     unfold RosPost at HC
     rw [TSb.out.1,TSb.out.2.1] at HC
     go_wp2_with fail
     rw [←hWr]
     refine HC.out.mono ?_
     rintro e W6n ⟨Ab,cb,rfl,hlb,hnb,hb⟩
     have RVb:=Lib.hid hnb.rdv
     have HLb:=Lib.hid hlb
     clear hlb hnb HC RR hWr e0 e1 e2 e3 e4 e5 e6 e7 e8
     replace R:=Lib.hid (R.out.ext hb)
     replace GL:=Lib.hid (GL.out.below hb)
     replace PW:=Lib.hid (PW.out.below hb)
     replace X:=Lib.hid (X.out.trans (hb.mono X.out.size))
     replace RG:=Lib.hid (RG.out.ext hb)
     replace I:=Lib.hid (I.out.ext hb)
     replace RWa:=Lib.hid (RWa.out.ext hb)
     replace Da:=Lib.hid (Da.out.ext hb)
     clear hb
     go_upto_region 8 with fail
     obtain⟨Wb,hWb,hrb,hb⟩:=set_load W6n vb Ab cb RVb.out HLb.out
     have RQb:=Lib.hid hrb
     clear hrb
     replace R:=Lib.hid (R.out.ext hb)
     replace GL:=Lib.hid (GL.out.below hb)
     replace PW:=Lib.hid (PW.out.below hb)
     replace X:=Lib.hid (X.out.trans (hb.mono X.out.size))
     replace RG:=Lib.hid (RG.out.ext hb)
     replace I:=Lib.hid (I.out.ext hb)
     replace RWa:=Lib.hid (RWa.out.ext hb)
     replace Da:=Lib.hid (Da.out.ext hb)
     clear hb
     have HC:=Lib.hid (ask_any (setS vb) (some ⟨W6n.heap.size,0,none⟩) 1 Wb (set_sz ZVb.out) RQb.out GL.out (fun _=>by
      have h:=TSb.out.2.2.2.2
      unfold askR at h
      rw [if_pos TSb.out.2.2.2.1] at h
      rw [h]
      show(0:Nat)≤_
      omega))
     unfold AskP at HC
     rw [TSb.out.2.2.2.1,TSb.out.2.2.2.2] at HC
     unfold encS setS at HC
     go_wp2_with fail
     rw [←hWb]
     refine HC.out.mono ?_
     rintro e W6nq ⟨Abq,cbq,rfl,-,hgb,hb⟩
     have RWb:Hid (RdS W6nq Abq (goneX x).groups):=Lib.hid hgb.rds
     clear hgb hWb RQb RVb HLb
     replace R:=Lib.hid (R.out.ext hb)
     replace GL:=Lib.hid (GL.out.below hb)
     replace PW:=Lib.hid (PW.out.below hb)
     replace X:=Lib.hid (X.out.trans (hb.mono X.out.size))
     replace RG:=Lib.hid (RG.out.ext hb)
     replace I:=Lib.hid (I.out.ext hb)
     replace RWa:=Lib.hid (RWa.out.ext hb)
     replace Da:=Lib.hid (Da.out.ext hb)
     clear hb HC
     obtain⟨W8,hWa⟩:∃W8,W8=W6nq.alloc (.cells #[.int .u8 3,.string ⟨#[]⟩,.string x.jid,.string ⟨#[]⟩,.slice Abq 0 cbq,.bool false,.bool false,.bool false,.bool false,.bool false,.bool true] 51):=⟨_,rfl⟩
     have hb:Below W6nq.heap.size W6nq W8:=by rw [hWa];exact(Below.refl _ _).alloc (Nat.le_refl _) _
     have Db:Hid (Row W8 W6nq.heap.size #[.int .u8 3,.string ⟨#[]⟩,.string x.jid,.string ⟨#[]⟩,.slice Abq 0 cbq,.bool false,.bool false,.bool false,.bool false,.bool false,.bool true]):=Lib.hid (by rw [hWa];exact Row.new _ _ _)
     replace R:=Lib.hid (R.out.ext hb)
     replace GL:=Lib.hid (GL.out.below hb)
     replace PW:=Lib.hid (PW.out.below hb)
     replace X:=Lib.hid (X.out.trans (hb.mono X.out.size))
     replace RG:=Lib.hid (RG.out.ext hb)
     replace I:=Lib.hid (I.out.ext hb)
     replace RWa:=Lib.hid (RWa.out.ext hb)
     replace Da:=Lib.hid (Da.out.ext hb)
     replace RWb:=Lib.hid (RWb.out.ext hb)
     clear hb
     unfold encW askX wantX goneX emB
     dsimp only [List.length_nil]
     go_upto_region 9 with fail
     rw [←hWa]
     clear hWa
     generalize W6nq.heap.size=gdb at *
     obtain⟨W9,hWa⟩:∃W9,W9=W8.alloc (.cells #[.int .u8 3,.string ⟨#[]⟩,.string x.jid,.string x.name,.slice A' x.groups.length c',.bool false,.bool false,.bool false,.bool false,.bool false,.bool false] 51):=⟨_,rfl⟩
     have hb:Below W8.heap.size W8 W9:=by rw [hWa];exact(Below.refl _ _).alloc (Nat.le_refl _) _
     have D9:Hid (Row W9 W8.heap.size #[.int .u8 3,.string ⟨#[]⟩,.string x.jid,.string x.name,.slice A' x.groups.length c',.bool false,.bool false,.bool false,.bool false,.bool false,.bool false]):=Lib.hid (by rw [hWa];exact Row.new _ _ _)
     have J:=Lib.hid (show Row W8 g4 #[.string x.jid,.string x.name,.slice A' x.groups.length c',.bool x.to,.bool x.out,.bool x.frm,.bool x.inn,.bool x.known] from I.out)
     have e0:W8.cell? ⟨g4,0,none⟩=some _:=J.out.at' 0 rfl
     have e1:W8.cell? ⟨g4,1,none⟩=some _:=J.out.at' 1 rfl
     have e2:W8.cell? ⟨g4,2,none⟩=some _:=J.out.at' 2 rfl
     have e3:W8.cell? ⟨g4,3,none⟩=some _:=J.out.at' 3 rfl
     have e4:W8.cell? ⟨g4,4,none⟩=some _:=J.out.at' 4 rfl
     have e5:W8.cell? ⟨g4,5,none⟩=some _:=J.out.at' 5 rfl
     have e6:W8.cell? ⟨g4,6,none⟩=some _:=J.out.at' 6 rfl
     have e7:W8.cell? ⟨g4,7,none⟩=some _:=J.out.at' 7 rfl
     replace R:=Lib.hid (R.out.ext hb)
     replace GL:=Lib.hid (GL.out.below hb)
     replace PW:=Lib.hid (PW.out.below hb)
     replace X:=Lib.hid (X.out.trans (hb.mono X.out.size))
     replace RG:=Lib.hid (RG.out.ext hb)
     replace I:=Lib.hid (I.out.ext hb)
     replace RWa:=Lib.hid (RWa.out.ext hb)
     replace Da:=Lib.hid (Da.out.ext hb)
     replace RWb:=Lib.hid (RWb.out.ext hb)
     replace Db:=Lib.hid (Db.out.ext hb)
     clear hb
     go_upto_region 10 with fail
     rw [←hWa]
     clear hWa e0 e1 e2 e3 e4 e5 e6 e7 J
     generalize W8.heap.size=gd9 at *
     have HC:=Lib.hid (samewant_one (wantX x) Aaq A' caq c' W9 RWa.out RG.out (by show x.groups.length≤_;omega))
     unfold encW wantX emB at HC
     dsimp only at HC
     have a0:W9.cell? ⟨gda,0,none⟩=some _:=Da.out.at' 0 rfl
     have a1:W9.cell? ⟨gda,1,none⟩=some _:=Da.out.at' 1 rfl
     have a2:W9.cell? ⟨gda,2,none⟩=some _:=Da.out.at' 2 rfl
     have a3:W9.cell? ⟨gda,3,none⟩=some _:=Da.out.at' 3 rfl
     have a4:W9.cell? ⟨gda,4,none⟩=some _:=Da.out.at' 4 rfl
     have a5:W9.cell? ⟨gda,5,none⟩=some _:=Da.out.at' 5 rfl
     have a6:W9.cell? ⟨gda,6,none⟩=some _:=Da.out.at' 6 rfl
     have a7:W9.cell? ⟨gda,7,none⟩=some _:=Da.out.at' 7 rfl
     have a8:W9.cell? ⟨gda,8,none⟩=some _:=Da.out.at' 8 rfl
     have a9:W9.cell? ⟨gda,9,none⟩=some _:=Da.out.at' 9 rfl
     have a10:W9.cell? ⟨gda,10,none⟩=some _:=Da.out.at' 10 rfl
     have e0:W9.cell? ⟨gd9,0,none⟩=some _:=D9.out.at' 0 rfl
     have e1:W9.cell? ⟨gd9,1,none⟩=some _:=D9.out.at' 1 rfl
     have e2:W9.cell? ⟨gd9,2,none⟩=some _:=D9.out.at' 2 rfl
     have e3:W9.cell? ⟨gd9,3,none⟩=some _:=D9.out.at' 3 rfl
     have e4:W9.cell? ⟨gd9,4,none⟩=some _:=D9.out.at' 4 rfl
     have e5:W9.cell? ⟨gd9,5,none⟩=some _:=D9.out.at' 5 rfl
     have e6:W9.cell? ⟨gd9,6,none⟩=some _:=D9.out.at' 6 rfl
     have e7:W9.cell? ⟨gd9,7,none⟩=some _:=D9.out.at' 7 rfl
     have e8:W9.cell? ⟨gd9,8,none⟩=some _:=D9.out.at' 8 rfl
     have e9:W9.cell? ⟨gd9,9,none⟩=some _:=D9.out.at' 9 rfl
     have e10:W9.cell? ⟨gd9,10,none⟩=some _:=D9.out.at' 10 rfl
     go_wp2_with fail
     refine HC.out.mono ?_
     rintro e w10 ⟨rfl,hb⟩
     replace R:=Lib.hid (R.out.ext hb)
     replace GL:=Lib.hid (GL.out.below hb)
     replace PW:=Lib.hid (PW.out.below hb)
     replace X:=Lib.hid (X.out.trans (hb.mono X.out.size))
     replace RG:=Lib.hid (RG.out.ext hb)
     replace I:=Lib.hid (I.out.ext hb)
     replace RWa:=Lib.hid (RWa.out.ext hb)
     replace Da:=Lib.hid (Da.out.ext hb)
     replace RWb:=Lib.hid (RWb.out.ext hb)
     replace Db:=Lib.hid (Db.out.ext hb)
     replace D9:=Lib.hid (D9.out.ext hb)
     clear hb HC a0 a1 a2 a3 a4 a5 a6 a7 a8 a9 a10 e0 e1 e2 e3 e4 e5 e6 e7 e8 e9 e10
     have HC:=Lib.hid (samewant_one (goneX x) Abq none cbq 0 w10 RWb.out (fun h=>absurd h (by simp [goneX])) (by show(0:Nat)≤_;omega))
     unfold encW goneX emB at HC
     dsimp only [List.length_nil] at HC
     have J:=Lib.hid (show Row w10 g4 #[.string x.jid,.string x.name,.slice A' x.groups.length c',.bool x.to,.bool x.out,.bool x.frm,.bool x.inn,.bool x.known] from I.out)
     have e0:w10.cell? ⟨g4,0,none⟩=some _:=J.out.at' 0 rfl
     have e1:w10.cell? ⟨g4,1,none⟩=some _:=J.out.at' 1 rfl
     have e2:w10.cell? ⟨g4,2,none⟩=some _:=J.out.at' 2 rfl
     have e3:w10.cell? ⟨g4,3,none⟩=some _:=J.out.at' 3 rfl
     have e4:w10.cell? ⟨g4,4,none⟩=some _:=J.out.at' 4 rfl
     have e5:w10.cell? ⟨g4,5,none⟩=some _:=J.out.at' 5 rfl
     have e6:w10.cell? ⟨g4,6,none⟩=some _:=J.out.at' 6 rfl
     have e7:w10.cell? ⟨g4,7,none⟩=some _:=J.out.at' 7 rfl
     have a0:w10.cell? ⟨gdb,0,none⟩=some _:=Db.out.at' 0 rfl
     have a1:w10.cell? ⟨gdb,1,none⟩=some _:=Db.out.at' 1 rfl
     have a2:w10.cell? ⟨gdb,2,none⟩=some _:=Db.out.at' 2 rfl
     have a3:w10.cell? ⟨gdb,3,none⟩=some _:=Db.out.at' 3 rfl
     have a4:w10.cell? ⟨gdb,4,none⟩=some _:=Db.out.at' 4 rfl
     have a5:w10.cell? ⟨gdb,5,none⟩=some _:=Db.out.at' 5 rfl
     have a6:w10.cell? ⟨gdb,6,none⟩=some _:=Db.out.at' 6 rfl
     have a7:w10.cell? ⟨gdb,7,none⟩=some _:=Db.out.at' 7 rfl
     have a8:w10.cell? ⟨gdb,8,none⟩=some _:=Db.out.at' 8 rfl
     have a9:w10.cell? ⟨gdb,9,none⟩=some _:=Db.out.at' 9 rfl
     have a10:w10.cell? ⟨gdb,10,none⟩=some _:=Db.out.at' 10 rfl
     go_wp2_with fail
     refine HC.out.mono ?_
     rintro e w11 ⟨rfl,hb⟩
     replace X:=Lib.hid (X.out.trans (hb.mono X.out.size))
     clear hb HC a0 a1 a2 a3 a4 a5 a6 a7 a8 a9 a10 e0 e1 e2 e3 e4 e5 e6 e7
     go_wp2
     go_ret
     exact⟨rfl,X.out⟩
  ·have hq:¬rosErrV l rv=0:=hok
   generalize rosErrV l rv=q at *
   clear hok
   go_wp2
   go_ret
   exact⟨rfl,X.out⟩
end Go.Proofs.YtnfokaecobddkaaGreatDoor
end
section
namespace Go.Proofs.YtnfokaecobddkaaGreatDoor
open Go.RowKit
set_option linter.unusedSimpArgs false
set_option linter.unusedVariables false
abbrev ItH:=ItemL×Option Addr×Nat
def cIt (x:ItH):List Value:=(cI x.1 x.2.1 x.2.2).toList
def cellsI (l:List ItH):List Value:=l.flatMap cIt
def NewS (base:Nat) (u:Value) (w:World) (A:Option Addr) (l:List ByteArray):Prop:=
 0 < l.length→∃b off,A=some ⟨b,off,none⟩∧base≤b∧u.ownBlock≠some b∧b < w.heap.size∧∀(i:Nat) (s:ByteArray),l[i]? = some s→w.cell? ⟨b,off+i,none⟩=some (.string s)
section
variable {base:Nat} {u u':Value} {w w':World} {A:Option Addr} {l:List ByteArray}
theorem NewS.ext (h:NewS base u w A l) (hb:Below w.heap.size w w'):NewS base u w' A l:=fun h0=>by
 obtain⟨b,off,h1,h2,h3,h4,h5⟩:=h h0
 exact⟨b,off,h1,h2,h3,Nat.lt_of_lt_of_le h4 hb.size,fun i s hi=>(hb.cell (p:=⟨b,off+i,none⟩) h4).trans (h5 i s hi)⟩
theorem NewS.rds (h:NewS base u w A l):RdS w A l:=fun h0=>by
 obtain⟨b,off,h1,h2,h3,h4,h5⟩:=h h0
 exact⟨b,off,h1,h4,h5⟩
theorem NewS.app (h:NewS base u w A l) (hg:w.grownBy w' u.ownBlock) (hr:u'.ownBlock=u.ownBlock∨u'.ownBlock=some w.heap.size):NewS base u' w' A l:=fun h0=>by
 obtain⟨b,off,h1,h2,h3,h4,h5⟩:=h h0
 have hk:w'.heap[b]? = w.heap[b]?:=hg.block b h4 (fun e=>h3 e.symm)
 refine⟨b,off,h1,h2,fun e=>?_,Nat.lt_of_lt_of_le h4 hg.size,fun i s hi=>?_⟩
 ·rcases hr with hr|hr
  ·exact h3 (hr ▸ e)
  ·rw [hr] at e
   simp only [Option.some.injEq] at e
   omega
 ·have:=h5 i s hi
  simp only [World.cell?] at this ⊢
  rw [hk]
  exact this
end
def RowC (base:Nat) (u:Value) (w:World) (ts:List ItH):Prop:=
 w.ownsRow base 48 8 u ts.length (cellsI ts)∧∀x∈ts,x.1.groups.length≤x.2.2∧NewS base u w x.2.1 x.1.groups
theorem RowC.nil (base:Nat) (w:World):RowC base (.slice none 0 0) w []:=⟨World.ownsRow_nil _ _ _ _,fun x hx=>by cases hx⟩
theorem RowC.ext {base:Nat} {u:Value} {w w':World} {ts:List ItH} (h:RowC base u w ts) (hb:Below w.heap.size w w'):RowC base u w' ts:=
 ⟨own_keep h.1 hb,fun x hx=>⟨(h.2 x hx).1,(h.2 x hx).2.ext hb⟩⟩
theorem RowC.app {base:Nat} {u u':Value} {w w':World} {ts:List ItH} {t:ItH} (h:RowC base u w ts) (ht:t.1.groups.length≤t.2.2∧NewS base u w t.2.1 t.1.groups)
  (hown:w'.ownsRow base 48 8 u' (ts.length+1) (cellsI (ts++[t]))) (hg:w.grownBy w' u.ownBlock) (hr:u'.ownBlock=u.ownBlock∨u'.ownBlock=some w.heap.size):RowC base u' w' (ts++[t]):=by
 refine⟨by rw [List.length_append];exact hown,fun x hx=>?_⟩
 rw [List.mem_append,List.mem_singleton] at hx
 rcases hx with hx|rfl
 ·exact⟨(h.2 x hx).1,(h.2 x hx).2.app hg hr⟩
 ·exact⟨ht.1,ht.2.app hg hr⟩
end Go.Proofs.YtnfokaecobddkaaGreatDoor
end
section
namespace Go.Proofs.YtnfokaecobddkaaGreatDoor
open Go.RowKit
set_option linter.unusedSimpArgs false
set_option linter.unusedVariables false
theorem NewS.set {base g o:Nat} {u x:Value} {w:World} {A:Option Addr} {l:List ByteArray} (h:NewS base u w A l) (hg:g < base):NewS base u (w.setCell ⟨g,o,none⟩ x) A l:=fun h0=>by
 obtain⟨b,off,h1,h2,h3,h4,h5⟩:=h h0
 refine⟨b,off,h1,h2,h3,by simpa [World.setCell] using h4,fun i s hi=>?_⟩
 exact(World.cell?_of_block (heap_setCell_other w _ b _ (by show b≠g;omega))).trans (h5 i s hi)
theorem RowC.set {base g o:Nat} {u x:Value} {w:World} {ts:List ItH} (h:RowC base u w ts) (hg:g < base):RowC base u (w.setCell ⟨g,o,none⟩ x) ts:=
 ⟨own_set h.1 (fun e=>by have:=(h.1.lt _ e).1;omega) _,fun y hy=>⟨(h.2 y hy).1,(h.2 y hy).2.set hg⟩⟩
end Go.Proofs.YtnfokaecobddkaaGreatDoor
end
section
namespace Go.Proofs.YtnfokaecobddkaaGreatDoor
open Go.RowKit
set_option linter.unusedSimpArgs false
set_option linter.unusedVariables false
end Go.Proofs.YtnfokaecobddkaaGreatDoor
end
section
namespace Go.Proofs.YtnfokaecobddkaaGreatDoor
end Go.Proofs.YtnfokaecobddkaaGreatDoor
end
section
namespace Go.Proofs.YtnfokaecobddkaaGreatDoor
open Go.RowKit
set_option linter.unusedSimpArgs false
set_option linter.unusedVariables false
end Go.Proofs.YtnfokaecobddkaaGreatDoor
end
section
namespace Go.Proofs.YtnfokaecobddkaaGreatDoor
open Go.RowKit
set_option linter.unusedSimpArgs false
set_option linter.unusedVariables false
end Go.Proofs.YtnfokaecobddkaaGreatDoor
end
section
namespace Go.Proofs.YtnfokaecobddkaaGreatDoor
open Go.RowKit
set_option linter.unusedSimpArgs false
set_option linter.unusedVariables false
def HeldO (base:Nat) (u:Value) (w:World) (hs:List NodeH):Prop:=∀(i:Nat) (x:NodeH),hs[i]? = some x→x.1.attrs.length≤x.2.2∧NewO base u w x.2.1 x.1.attrs
def GrowT (base:Nat) (u:Value) (w:World) (hs:List NodeH):Prop:=w.ownsRow base 69 6 u hs.length (cellsN hs)∧HeldO base u w hs
section
variable {base:Nat} {u u':Value} {w w':World} {hs m:List NodeH}
theorem HeldO.app (h:HeldO base u w hs) (k:HeldO base u w m):HeldO base u w (hs++m):=fun i x hi=>by
 rcases Nat.lt_or_ge i hs.length with h1|h1
 ·rw [List.getElem?_append_left h1] at hi;exact h i x hi
 ·rw [List.getElem?_append_right h1] at hi;exact k _ x hi
theorem GrowT.ext (h:GrowT base u w hs) (hb:Below w.heap.size w w'):GrowT base u w' hs:=⟨own_keep h.1 hb,fun i x hi=>⟨(h.2 i x hi).1,(h.2 i x hi).2.ext hb⟩⟩
theorem GrowT.app (h:GrowT base u w hs) (hm:HeldO base u w m) (hown:w'.ownsRow base 69 6 u' (hs.length+m.length) (cellsN (hs++m))) (hg:w.grownBy w' u.ownBlock) (hr:u'.ownBlock=u.ownBlock∨u'.ownBlock=some w.heap.size):GrowT base u' w' (hs++m):=
 ⟨by rw [List.length_append];exact hown,fun i x hi=>⟨(h.2.app hm i x hi).1,(h.2.app hm i x hi).2.app hg hr⟩⟩
theorem NewA.newO {base' g:Nat} {A:Option Addr} {l:List AttrL} (h:NewA base' g w A l) (hb:base≤base') (hu:∀k,u.ownBlock=some k→k < base'):NewO base u w A l:=fun h0=>by
 obtain⟨b,off,h1,h2,h3,h4,h5⟩:=h h0
 exact⟨b,off,h1,Nat.le_trans hb h2,fun e=>by have:=hu b e;omega,h4,h5⟩
theorem NewV.held {base':Nat} {A:Option Addr} {c:Nat} {v:List NodeL} (h:NewV base' w A c v) (hb:base≤base') (hu:∀k,u.ownBlock=some k→k < base') :
  ∃m:List NodeH,m.map (·.1)=v∧m.length=v.length∧Rd w w.heap.size 6 A v.length (cellsN m)∧HeldO base u w m:=by
 obtain⟨l,rfl,h2,h3⟩:=h
 rw [List.length_map] at h2 ⊢
 exact⟨l,rfl,rfl,Rd.of_own h2,fun i x hi=>⟨(h3 i x hi).1,(h3 i x hi).2.newO hb hu⟩⟩
theorem HeldO.bare (l:List NodeL) (hl:∀n∈l,n.attrs=[]):HeldO base u w (l.map fun n=>(n,none,0)):=fun i x hi=>by
 rw [List.getElem?_map,Option.map_eq_some_iff] at hi
 obtain⟨n,hn,rfl⟩:=hi
 have:=hl n (List.mem_of_getElem? hn)
 dsimp only
 rw [this]
 exact⟨Nat.le_refl _,fun h0=>absurd h0 (by decide)⟩
end
end Go.Proofs.YtnfokaecobddkaaGreatDoor
end
section
namespace Go.Proofs.YtnfokaecobddkaaGreatDoor
open Go.RowKit
set_option linter.unusedSimpArgs false
set_option linter.unusedVariables false
def NdW (w:World) (g:Nat) (cs:Array Value):Prop:=w.heap[g]? = some (.cells cs 69 (0,0))
section
variable {w w' q:World} {g:Nat} {cs:Array Value}
theorem NdW.row (h:NdW w g cs):Row w g cs:=⟨_,h⟩
theorem NdW.set (h:NdW w g cs) (i:Nat) (v:Value):NdW (w.setCell ⟨g,i,none⟩ v) g (cs.setIfInBounds i v):=heap_setCell_same w g i _ _ _ h
theorem NdW.ne {base s n:Nat} {v:Value} {xs:List Value} (h:NdW w g cs) (ho:w.ownsRow base 80 s v n xs):v.ownBlock≠some g:=fun e=>by
 rcases ho.2 with ⟨rfl,-⟩|⟨k,cap,cur,rfl,-,hk,-⟩
 ·cases e
 ·simp only [Value.ownBlock,Option.some.injEq] at e
  subst e
  have:=hk.symm.trans h
  simp only [Option.some.injEq,Obj.cells.injEq] at this
  exact absurd this.2.1 (by decide)
end
structure ItS (w:World) (cs:Array Value) (g:Nat) (k:Int) (L:List AttrL) (u:Value) (W:World):Prop where
 b:Below w.heap.size w W
 r:Row W w.heap.size cs
 n:NdW W g #[.int .u8 1,.string (⟨#[106,97,98,98,101,114,58,105,113,58,114,111,115,116,101,114]⟩:ByteArray),.string (⟨#[105,116,101,109]⟩:ByteArray),u,.string ⟨#[]⟩,.int .i64 k]
 o:W.ownsRow (w.heap.size+1) 80 3 u L.length (cellsA L)
 g:w.heap.size < g
section
variable {w q:World} {cs:Array Value} {g:Nat} {k:Int} {L:List AttrL} {u:Value}
theorem ItS.node {W W':World} (h:ItS w cs g k L u W) (hk:∀j,j < W.heap.size→some j≠u.ownBlock→W'.heap[j]? = W.heap[j]?):NdW W' g #[.int .u8 1,.string (⟨#[106,97,98,98,101,114,58,105,113,58,114,111,115,116,101,114]⟩:ByteArray),.string (⟨#[105,116,101,109]⟩:ByteArray),u,.string ⟨#[]⟩,.int .i64 k]:=
 (hk g h.n.row.lt (fun e=>h.n.ne h.o e.symm)).trans h.n
theorem ItS.step {W W':World} {L':List AttrL} {u':Value} (h:ItS w cs g k L u W) (ho:W'.ownsRow (w.heap.size+1) 80 3 u' L'.length (cellsA L')) (hb:Below (w.heap.size+1) W W') (hk:∀j,j < W.heap.size→some j≠u.ownBlock→W'.heap[j]? = W.heap[j]?) :
  ItS w cs g k L' u' (W'.setCell ⟨g,3,none⟩ u'):=by
 have hn:=h.node hk
 have hl:=Nat.le_of_lt h.g
 refine⟨(h.b.trans (hb.mono (Nat.le_succ _))).setCell (p:=⟨g,3,none⟩) hl _,(h.r.extB hb (Nat.lt_succ_self _)).other (by have:=h.g;omega) _ _,?_,own_set ho (hn.ne ho) _,h.g⟩
 have h2:=hn.set 3 u'
 simp only [List.setIfInBounds_toArray,List.set_cons_zero,List.set_cons_succ] at h2
 exact h2
theorem ItS.many {W:World} (h:ItS w cs g k L u W) (j:Int):ItS w cs g j L u (W.setCell ⟨g,5,none⟩ (.int .i64 j)):=by
 have hl:=Nat.le_of_lt h.g
 refine⟨h.b.setCell (p:=⟨g,5,none⟩) hl _,h.r.other (by have:=h.g;omega) _ _,?_,own_set h.o (h.n.ne h.o) _,h.g⟩
 have h2:=h.n.set 5 (.int .i64 j)
 simp only [List.setIfInBounds_toArray,List.set_cons_zero,List.set_cons_succ] at h2
 exact h2
theorem ItS.ext {W W':World} (h:ItS w cs g k L u W) (hb:Below W.heap.size W W'):ItS w cs g k L u W':=
 ⟨h.b.trans (hb.mono h.b.size),h.r.ext hb,(hb.block g h.n.row.lt).trans h.n,own_keep h.o hb,h.g⟩
end
end Go.Proofs.YtnfokaecobddkaaGreatDoor
end
section
namespace Go.Proofs.YtnfokaecobddkaaGreatDoor
open Go.RowKit
set_option linter.unusedSimpArgs false
set_option linter.unusedVariables false
end Go.Proofs.YtnfokaecobddkaaGreatDoor
end
section
namespace Go.Proofs.YtnfokaecobddkaaGreatDoor
open Go.RowKit
set_option linter.unusedSimpArgs false
set_option linter.unusedVariables false
end Go.Proofs.YtnfokaecobddkaaGreatDoor
end
section
namespace Go.Proofs.YtnfokaecobddkaaGreatDoor
open Go.RowKit
set_option linter.unusedSimpArgs false
set_option linter.unusedVariables false
end Go.Proofs.YtnfokaecobddkaaGreatDoor
end
section
namespace Go.Proofs.YtnfokaecobddkaaGreatDoor
open Go.Joins Go.ChangeShapes Go.WideShapes Go.RowKit Go.Deep
set_option linter.unusedSimpArgs false
set_option linter.unusedVariables false
section
variable {H:Type} {enc:TypeId×Value→H} {W:World} {base:Nat} {spare:Nat→Bool} {held:Bool} {fuel:Nat} {cs:List Value} {x:DataW H×List MemPlace}
theorem open_strs (h:DataW.trod enc Tryz.prog W base spare held fuel 44 cs=some x):∃(A:Option Addr) (l:List ByteArray) (c:Nat),cs=[.slice A l.length c]∧l.length≤c∧RdS W A l:=by
 rcases open_slice Tryz.underlying44 h with h0|⟨a,len,cap,m,n,D,Pl,hcs,hb,hl,hm,hmm,hx,hi⟩
 ·exact⟨none,[],0,h0.1,Nat.le_refl _,fun h=>absurd h (by simp)⟩
 ·obtain⟨l,rfl,hp⟩:=list_of (P:=fun i (x:ByteArray)=>W.cell? (a.add i)=some (.string x)) len fun i hil=>by
   obtain⟨cs',hc,ht'⟩:=hi i (by rw [hmm];split <;> omega)
   obtain⟨s,rfl,_,_⟩:=DataW.trod_string Tryz.underlying9 ht'
   rw [show Tryz.prog.cellsOf 9=1 by kernel_rfl,Nat.mul_one] at hc
   obtain⟨_,hcl,hat⟩:=World.cells?_some hc
   have h0:=hat 0 (by omega)
   have e:(a.add i).add 0=a.add i:=by simp [Addr.add]
   rw [e] at h0
   exact⟨s,h0⟩
  refine⟨some a,l,cap,hcs,hl,fun h0=>?_⟩
  obtain⟨b,off,rfl,hb'⟩:=addr_of (hp 0 l[0] (List.getElem?_eq_getElem h0))
  exact⟨b,off,rfl,hb',fun i s hs=>by simpa only [add_mk] using hp i s hs⟩
set_option maxRecDepth 100000 in
theorem open_four {t:TypeId} {f0 f1 f2 f3:Field} (hs:Tryz.prog.underlying t=some (.struct #[f0,f1,f2,f3])) (o0:f0.offset=0) (o1:f1.offset=1) (o2:f2.offset=2) (o3:f3.offset=3)
  (k0:Tryz.prog.cellsOf f0.type=1) (k1:Tryz.prog.cellsOf f1.type=1) (k2:Tryz.prog.cellsOf f2.type=1) (k3:Tryz.prog.cellsOf f3.type=1) (hC:Tryz.prog.cellsOf t=4) (h:DataW.trod enc Tryz.prog W base spare held fuel t cs=some x) :
  ∃(v0 v1 v2 v3:Value) (y0 y1 y2 y3:DataW H×List MemPlace) (n:Nat),cs=[v0,v1,v2,v3]∧DataW.trod enc Tryz.prog W base spare held n f0.type [v0]=some y0∧DataW.trod enc Tryz.prog W base spare held n f1.type [v1]=some y1∧DataW.trod enc Tryz.prog W base spare held n f2.type [v2]=some y2∧DataW.trod enc Tryz.prog W base spare held n f3.type [v3]=some y3:=by
 obtain⟨xs,n,_,hx,hsz,hlen,hg⟩:=DataW.trod_struct hs h
 match cs,hsz.trans hC with
 | [c0,c1,c2,c3],_=>
  match xs,hlen with
  | [y0,y1,y2,y3],_=>exact⟨c0,c1,c2,c3,y0,y1,y2,y3,n,rfl,by simpa [o0,k0] using hg 0 f0 rfl,by simpa [o1,k1] using hg 1 f1 rfl,by simpa [o2,k2] using hg 2 f2 rfl,by simpa [o3,k3] using hg 3 f3 rfl⟩
set_option maxRecDepth 100000 in
theorem open_eight {t:TypeId} {f0 f1 f2 f3 f4:Field} (hs:Tryz.prog.underlying t=some (.struct #[f0,f1,f2,f3,f4])) (o0:f0.offset=0) (o1:f1.offset=1) (o2:f2.offset=2) (o3:f3.offset=3) (o4:f4.offset=7)
  (k0:Tryz.prog.cellsOf f0.type=1) (k1:Tryz.prog.cellsOf f1.type=1) (k2:Tryz.prog.cellsOf f2.type=1) (k3:Tryz.prog.cellsOf f3.type=4) (k4:Tryz.prog.cellsOf f4.type=1) (hC:Tryz.prog.cellsOf t=8) (h:DataW.trod enc Tryz.prog W base spare held fuel t cs=some x) :
  ∃(v0 v1 v2 v3 v4 v5 v6 v7:Value) (y0 y1 y2 y3 y4:DataW H×List MemPlace) (n:Nat),cs=[v0,v1,v2,v3,v4,v5,v6,v7]∧DataW.trod enc Tryz.prog W base spare held n f0.type [v0]=some y0∧DataW.trod enc Tryz.prog W base spare held n f1.type [v1]=some y1∧DataW.trod enc Tryz.prog W base spare held n f2.type [v2]=some y2∧DataW.trod enc Tryz.prog W base spare held n f3.type [v3,v4,v5,v6]=some y3∧DataW.trod enc Tryz.prog W base spare held n f4.type [v7]=some y4:=by
 obtain⟨xs,n,_,hx,hsz,hlen,hg⟩:=DataW.trod_struct hs h
 match cs,hsz.trans hC with
 | [c0,c1,c2,c3,c4,c5,c6,c7],_=>
  match xs,hlen with
  | [y0,y1,y2,y3,y4],_=>exact⟨c0,c1,c2,c3,c4,c5,c6,c7,y0,y1,y2,y3,y4,n,rfl,by simpa [o0,k0] using hg 0 f0 rfl,by simpa [o1,k1] using hg 1 f1 rfl,by simpa [o2,k2] using hg 2 f2 rfl,by simpa [o3,k3] using hg 3 f3 rfl,by simpa [o4,k4] using hg 4 f4 rfl⟩
set_option maxRecDepth 100000 in
theorem open_item (h:DataW.trod enc Tryz.prog W base spare held fuel 48 cs=some x):∃(t:ItemL) (A:Option Addr) (c:Nat),cs=(cI t A c).toList∧t.groups.length≤c∧RdS W A t.groups:=by
 obtain⟨v0,v1,v2,v3,v4,v5,v6,v7,y0,y1,y2,y3,y4,n,rfl,t0,t1,t2,t3,t4⟩:=open_eight Tryz.underlying48 rfl rfl rfl rfl rfl (by kernel_rfl) (by kernel_rfl) (by kernel_rfl) (by kernel_rfl) (by kernel_rfl) (by kernel_rfl) h
 obtain⟨u0,u1,u2,u3,z0,z1,z2,z3,n',e,s0,s1,s2,s3⟩:=open_four Tryz.underlying46 rfl rfl rfl rfl (by kernel_rfl) (by kernel_rfl) (by kernel_rfl) (by kernel_rfl) (by kernel_rfl) t3
 obtain⟨j,e0,_,_⟩:=DataW.trod_string Tryz.underlying9 t0
 obtain⟨nm,e1,_,_⟩:=DataW.trod_string Tryz.underlying9 t1
 obtain⟨A,l,c,e2,q1,q2⟩:=open_strs t2
 obtain⟨b0,r0,_⟩:=DataW.trod_bool Tryz.underlying4 s0
 obtain⟨b1,r1,_⟩:=DataW.trod_bool Tryz.underlying4 s1
 obtain⟨b2,r2,_⟩:=DataW.trod_bool Tryz.underlying4 s2
 obtain⟨b3,r3,_⟩:=DataW.trod_bool Tryz.underlying4 s3
 obtain⟨b4,r4,_⟩:=DataW.trod_bool Tryz.underlying4 t4
 simp only [List.cons.injEq,and_true] at e e0 e1 e2 r0 r1 r2 r3 r4
 obtain⟨rfl,rfl,rfl,rfl⟩:=e
 subst e0 e1 e2 r0 r1 r2 r3 r4
 exact⟨⟨j,nm,l,b0,b1,b2,b3,b4⟩,A,c,rfl,q1,q2⟩
theorem open_items (h:DataW.trod enc Tryz.prog W base spare held fuel 39 cs=some x):∃(A:Option Addr) (l:List ItemL) (c:Nat),cs=[.slice A l.length c]∧l.length≤c∧RdI W A l:=by
 rcases open_slice Tryz.underlying39 h with h0|⟨a,len,cap,m,n,D,Pl,hcs,hb,hl,hm,hmm,hx,hi⟩
 ·exact⟨none,[],0,h0.1,Nat.le_refl _,fun h=>absurd h (by simp)⟩
 ·obtain⟨l,rfl,hp⟩:=list_of (P:=fun i (x:ItemL)=>∃A c,(∀r v,(cI x A c)[r]? = some v→W.cell? (a.add (i*8+r))=some v)∧x.groups.length≤c∧RdS W A x.groups) len fun i hil=>by
   obtain⟨cs',hc,ht'⟩:=hi i (by rw [hmm];split <;> omega)
   obtain⟨t,A,c,rfl,q1,q2⟩:=open_item ht'
   rw [show Tryz.prog.cellsOf 48=8 by kernel_rfl] at hc
   obtain⟨_,hcl,hat⟩:=World.cells?_some hc
   refine⟨t,A,c,fun r v hv=>?_,q1,q2⟩
   have hr:r < 8:=(Array.getElem?_eq_some_iff.1 hv).1
   have h1:=hat r hr
   rw [Go.Deep.add_add] at h1
   rw [h1,Array.getElem?_toList]
   exact hv
  refine⟨some a,l,cap,hcs,hl,fun h0=>?_⟩
  obtain⟨A,c,h1,_⟩:=hp 0 l[0] (List.getElem?_eq_getElem h0)
  obtain⟨b,off,rfl,hb'⟩:=addr_of (by simpa using h1 0 _ rfl)
  refine⟨b,off,rfl,hb',fun i s hs=>?_⟩
  obtain⟨A,c,h1,q1,q2⟩:=hp i s hs
  exact⟨A,c,fun r v hv=>by simpa only [add_mk,Nat.add_assoc] using h1 r v hv,q1,q2⟩
set_option maxRecDepth 100000 in
theorem open_agg2 {r:Reach} {b0:Nat} {t:TypeId} {f0 f1:Field} {v:Value} {d:DataW H} {p:List MemPlace} (hs:Tryz.prog.underlying t=some (.struct #[f0,f1])) (o0:f0.offset=0) (o1:f1.offset=1) (k0:Tryz.prog.cellsOf f0.type=1) (k1:Tryz.prog.cellsOf f1.type=1) (hC:Tryz.prog.cellsOf t=2)
  (hv:Value.okWide Tryz.prog W r b0 t v) (h:DataW.Trod enc Tryz.prog W base spare held t v d p) :
  ∃(v0 v1:Value) (y0 y1:DataW H×List MemPlace) (n:Nat),v=.agg #[v0,v1]∧DataW.trod enc Tryz.prog W base spare held n f0.type [v0]=some y0∧DataW.trod enc Tryz.prog W base spare held n f1.type [v1]=some y1:=by
 obtain⟨cs,rfl,hsz⟩:=okWide_struct hs hv
 obtain⟨l⟩:=cs
 match l,hsz.trans hC with
 | [c0,c1],_=>
  obtain⟨fuel,hf⟩:=h
  obtain⟨xs,n,_,hx,_,hlen,hg⟩:=DataW.trod_struct hs hf
  match xs,hlen with
  | [y0,y1],_=>exact⟨c0,c1,y0,y1,n,rfl,by simpa [Value.cells,o0,k0] using hg 0 f0 rfl,by simpa [Value.cells,o1,k1] using hg 1 f1 rfl⟩
set_option maxRecDepth 100000 in
theorem open_roster {r:Reach} {b0:Nat} {v:Value} {d:DataW H} {p:List MemPlace} (hv:Value.okWide Tryz.prog W r b0 41 v) (h:DataW.Trod enc Tryz.prog W base spare held 41 v d p) :
  ∃(A:Option Addr) (l:List ItemL) (c:Nat) (k:Int),v=.agg #[.slice A l.length c,.int .i64 k]∧l.length≤c∧RdI W A l:=by
 obtain⟨v0,v1,y0,y1,n,rfl,t0,t1⟩:=open_agg2 Tryz.underlying41 rfl rfl (by kernel_rfl) (by kernel_rfl) (by kernel_rfl) hv h
 obtain⟨A,l,c,e,q1,q2⟩:=open_items t0
 obtain⟨k,e1,_,_⟩:=DataW.trod_int Tryz.underlying3 t1
 simp only [List.cons.injEq,and_true] at e e1
 subst e e1
 exact⟨A,l,c,k,rfl,q1,q2⟩
end
end Go.Proofs.YtnfokaecobddkaaGreatDoor
end
section
namespace Go.Proofs.YtnfokaecobddkaaGreatDoor.stanzaContactsDone
open Go.ChangeShapes Go.WideShapes Go.ChangeAt Go.RowKit Go.Lib
set_option linter.unusedVariables false
noncomputable def laidWorld (os:Os):World:=
 let w0:=World.doorLaid Tryz.prog 79 os
 { w0 with heap:=w0.heap.modify 2 fun
  | .cells _ t frozen=>.cells (Lib.firstTab.map fun z=>Value.int .u8 z).toArray t frozen
  | o=>o}
theorem laid_met (os:Os) (args:Array Value):laidMetH Tryz.prog Rows.stanzaContactsRow.laid ((laidWorld os).forCall (fun _ _=>0) ⟨#[],args,[]⟩).memory:=
 laidMetH_of_parts3 (fuel:=8) (laidMet_of_run' 8 (by kernel_rfl) (by kernel_rfl)) (by kernel_rfl) (by kernel_rfl)
theorem witness_row (os:Os) {H:Type} (enc:TypeId×Value→H) :
  (OpenSpec.ofChange Rows.stanzaContactsSpec).preRow enc Tryz.prog Tryz.f5 Rows.stanzaContactsRow.domain false Rows.stanzaContactsRow.laid ((laidWorld os).forCall (fun _ _=>0) ⟨#[],#[.agg #[.slice none 0 0,.int .i64 0],.int .i64 0],[]⟩).memory #[.agg #[.slice none 0 0,.int .i64 0],.int .i64 0]:=by
 have hw:(DataW.whole enc Tryz.prog ((laidWorld os).forCall (fun _ _=>0) ⟨#[],#[.agg #[.slice none 0 0,.int .i64 0],.int .i64 0],[]⟩).memory Tryz.f5.params.toList (OpenSpec.ofChange Rows.stanzaContactsSpec).vars false #[Value.agg #[.slice none 0 0,.int .i64 0],Value.int .i64 0].toList 8).map (fun x=>(x.1,x.2.1)) =
   some ([.agg [.nil,.lit (.int .i64 0)],.lit (.int .i64 0)],[]):=by kernel_rfl
 obtain⟨⟨x1,x2,x3⟩,hx,hx1⟩:=Option.map_eq_some_iff.1 hw
 simp only [Prod.mk.injEq] at hx1
 obtain⟨rfl,rfl⟩:=hx1
 exact OpenSpec.preRow_of_cond 8 hx (by kernel_rfl) (fun k hk=>by cases hk) (by kernel_rfl) (laid_met os _)
theorem size_of {W:World} (h:W.ShapedOpen Tryz.prog):9≤W.heap.size:=by
 have hs:(((begin Tryz.prog (fun _ _=>0) default).world.heap[8]?).bind Obj.row?).isSome=true:=by kernel_rfl
 obtain⟨⟨zero,t⟩,h0⟩:=Option.isSome_iff_exists.1 hs
 obtain⟨cs,hh,_⟩:=h.1 8 zero t (of_decide_eq_true (by kernel_rfl)) h0
 have:=(Array.getElem?_eq_some_iff.1 hh).1
 omega
theorem glb_of {W:World} (h:W.ShapedOpen Tryz.prog):Glb W:=
 Go.Proofs.cell_of_shapedOpen_int (zero:=#[.int .i64 0]) (t:=3) h (of_decide_eq_true (by kernel_rfl)) (by kernel_rfl) rfl (by kernel_rfl) (by kernel_rfl) Tryz.underlying3
theorem pow_of {W:World} (h:laidMetH Tryz.prog Rows.stanzaContactsRow.laid W):Pow W:=by
 have h1:=h.filter (fun x=>x.1 == "internal/strconv.uint64pow10")
 have e:Rows.stanzaContactsRow.laid.filter (fun x=>x.1 == "internal/strconv.uint64pow10")=[("internal/strconv.uint64pow10",Rows.laid_internal_strconv_uint64pow10)]:=by kernel_rfl
 rw [e,Go.MakeChecks.laidMetH_plain _ _ _ (by kernel_rfl)] at h1
 exact tabIs_of_head (g:=4) (by kernel_rfl) (by kernel_rfl) Tryz.underlying309 Tryz.underlying285 (by kernel_rfl) (by kernel_rfl) h1
set_option maxRecDepth 100000 in
set_option maxHeartbeats 2000000 in
theorem lifted (os:Os) (started:os.Started) (H:Type) (enc:TypeId×Value→H) (F:Stop.Interp) :
  ReturnsInHanded {} Tryz.checked os 5 .any ((OpenSpec.ofChange Rows.stanzaContactsSpec).preRow enc Tryz.prog Tryz.f5 Rows.stanzaContactsRow.domain false Rows.stanzaContactsRow.laid) (((OpenSpec.ofChange Rows.stanzaContactsSpec).at F).post enc Tryz.prog Tryz.f5 false true false false):=by
 refine returnsInHanded_of_row (C:=Tryz.checked) (s:=OpenSpec.ofChange Rows.stanzaContactsSpec) own started (by kernel_rfl) Tryz.func5
  (witness_row_atRef (enc:=enc) (C:=Tryz.checked) false (laidWorld os) #[.agg #[.slice none 0 0,.int .i64 0],.int .i64 0] rfl (by kernel_rfl) (by kernel_rfl) (by kernel_rfl) (witness_row os enc)) ?_
 intro W base args ds gs before hval0 hW _ _ _ hlaid hsh _
 have hval:∀(j:Nat) t v,Tryz.f5.params[j]? = some t→args[j]? = some v→Value.okWide Tryz.prog W .any base t v:=hval0
 have hW':=hW
 obtain⟨p,q,hA0,hV,rfl,hfz,hnd⟩:=hW
 have hA:DataW.TrodAll enc Tryz.prog W 0 (fun _=>true) true Tryz.f5.params.toList args.toList ds p:=hA0
 rw [Tryz.params5] at hA hval
 obtain⟨v0,vs0,d0,ds0,p0,q0,hargs,rfl,rfl,h0,r0⟩:=trodAll_cons hA
 obtain⟨v1,vs1,d1,ds1,p1,q1,rfl,rfl,rfl,h1,r1⟩:=trodAll_cons r0
 obtain⟨rfl,rfl,rfl⟩:=trodAll_nil r1
 obtain rfl:args=#[v0,v1]:=by cases args;simp_all
 obtain⟨rfl,rfl⟩:=trodVars_none hV
 have k0:=h0
 have lt0:∀x∈p0,x.block < W.heap.size:=by obtain⟨m,hm⟩:=k0;exact DataW.trod_lt m _ _ _ hm
 obtain⟨A,l,c,rv,rfl,hc,hr⟩:=open_roster (hval 0 41 v0 rfl rfl) h0
 obtain⟨k,rfl,rfl,rfl,hk⟩:=open_int Tryz.underlying3 (hval 1 3 v1 rfl rfl) h1
 have hp:Pow W:=pow_of hlaid
 clear hA0 hval0
 refine(stanzacontacts_walk l rv A c k W hr hc (glb_of hsh) hp (size_of hsh)).mono fun e W' ⟨he,bel⟩=>?_
 subst he
 exact⟨_,rfl,_,_,_,[],_,[],hW',trodAll_mk1 (shut_bool Tryz.underlying4 _),(trodAll_cons_mk (Below.trod laidOut (by kernel_rfl) (of_decide_eq_true (by kernel_rfl)) k0 bel lt0) (trodAll_cons_mk (shut_int Tryz.underlying3 hk) trodAll_mk0)),rfl,bel.frame _,fun h=>by cases h⟩
end Go.Proofs.YtnfokaecobddkaaGreatDoor.stanzaContactsDone
end
section
namespace Go.Proofs.YtnfokaecobddkaaGreatDoor.stanzaContactsDone
open Go.ChangeShapes Go.WideShapes Go.ChangeAt Go.RowKit Go.Lib
set_option linter.unusedVariables false
theorem closed:joinedFacts Tryz.prog 5 Tryz.f5 (OpenSpec.ofChange Rows.stanzaContactsSpec).bare Rows.stanzaContactsRow=true:=by
 delta joinedFacts
 rewrite [may_enter,lifts_final,make_cut,laidOut,maps_rowed,stops_heard,stops_none,stopKnobs_none]
 kernel_rfl
theorem inst:Tryz.f5.isInstance Tryz.prog Rows.stanzaContactsRow.origin Rows.stanzaContactsRow.targs:=of_decide_eq_true (by kernel_rfl)
theorem wrap:Tryz.f5.isWrapper Tryz.prog Rows.stanzaContactsRow.wrapper Rows.stanzaContactsRow.mainSum:=by unfold Func.isWrapper;first|(rw [if_pos (by decide +kernel)];kernel_rfl)|(rw [if_neg (by decide +kernel)];exact⟨rfl,rfl⟩)
set_option maxRecDepth 100000 in
theorem over:Rows.stanzaContactsRow.holds Tryz.pinned (OpenSpec.ofChange Rows.stanzaContactsSpec):=
 OpenClaim.holds_of_cond 5 Tryz.f5 rfl rfl rfl rfl rfl rfl rfl ⟨rfl,rfl,rfl,rfl,rfl⟩ rfl rfl rfl rfl rfl (by kernel_rfl) Tryz.func5 closed inst wrap
  (fun os started H enc _ F0=>by rw [OpenClaim.pre_eq_preRow];exact lifted os started H enc F0)
theorem proved:Rows.StanzaContactsCardSaid:=
 Claim7.holds_tied_plain_at .later [] [.data,.data,.data,.data,.handle,.sentinel,.sentinel,.pinned] true (true,"abfa91dde2a6f935aa99e589864e0708bd7b244e11d42d0d05ae914af1c71258") true
  over (fun _ h=>by cases h) (by kernel_rfl) (fun _ h=>by cases h) stanzaContacts_row_tie rfl ⟨rfl,rfl⟩ (by kernel_rfl) rfl
  (fun f fn hf hfn=>by
   obtain rfl:f=5:=Option.some.inj ((show Tryz.prog.funcNamed "tidewaiter/tidewaiterlaw22.StanzaContacts"=some 5 by kernel_rfl).symm.trans hf) |>.symm
   obtain rfl:fn=Tryz.f5:=(Option.some.inj (Tryz.func5.symm.trans hfn)).symm
   exact⟨by kernel_rfl,fun j t ht=>by
    rw [Tryz.params5] at ht
    have h3:t=41∨t=3:=by
     rcases j with _|_|j
     ·exact .inl (by simpa using ht.symm)
     ·exact .inr (by simpa using ht.symm)
     ·simp at ht
    rcases h3 with rfl|rfl
    ·exact(show Tryz.prog.wantsStandIn 41=false by kernel_rfl)
    ·exact(show Tryz.prog.wantsStandIn 3=false by kernel_rfl)⟩)
  (by kernel_rfl)
#print axioms proved
end Go.Proofs.YtnfokaecobddkaaGreatDoor.stanzaContactsDone
end
