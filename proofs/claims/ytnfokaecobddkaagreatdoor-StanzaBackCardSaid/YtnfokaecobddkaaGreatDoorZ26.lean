/- The call of the law StanzaBack returns true at every stanza and tree; the arguments read behind the call as they read before. Conditions: the tables and the errors of the library read as its text lays them. -/
import Derived.Test.YtnfokaecobddkaaGreatDoorZ25
import Derived.Test.YtnfokaecobddkaaGreatDoorZ16
import Derived.Test.YtnfokaecobddkaaGreatDoorZ17
import Derived.Deep.Cut
import Derived.Test.YtnfokaecobddkaaGreatDoorZ12
import Derived.Test.YtnfokaecobddkaaGreatDoorZ07
import Derived.Lib.SmallJoins
import Derived.Test.YtnfokaecobddkaaGreatDoorZ01
import Derived.WalkKit
import Derived.ProofKit
import Derived.OpenShut
import Derived.ShutString
import Derived.ChangeOld
import Derived.Below
import Derived.Deep.DeepHandedRow
import Derived.Deep.DeepWitnessRowRef
import Derived.SizedLaws
import Derived.Shelf.LaysM
import Derived.LaidMore
import Derived.LaidOnce
import Derived.Stop.Joined
import Derived.Lib.LaidU8
import Derived.Lib.DecodeN
import Derived.JoinedCond
import Derived.Test.YtnfokaecobddkaaGreatDoorCards
import Derived.Test.YtnfokaecobddkaaGreatDoorTie
import Derived.SevenTiedAt
set_option linter.all false
section
namespace Go.Proofs.YtnfokaecobddkaaGreatDoor
open Go.Proofs.YtnfokaecobddkaaGreatDoor.Clo Go.RowKit
set_option maxRecDepth 100000
set_option maxHeartbeats 0
noncomputable def m3 : MTree := .node (.node (.node (.node (.leaf) 612 (.cons (.s [97]) (.nil)) (.b true) (.leaf)) 159441 (.cons (.s [105,100]) (.nil)) (.b true) (.leaf)) 159454 (.cons (.s [105,113]) (.nil)) (.b true) (.node (.leaf) 10719055304 (.cons (.s [116,121,112,101]) (.nil)) (.b true) (.leaf))) 2741641180477 (.cons (.s [113,117,101,114,121]) (.nil)) (.b true) (.node (.node (.leaf) 2772043137849 (.cons (.s [120,109,108,110,115]) (.nil)) (.b true) (.leaf)) 46463327624712887903 (.cons (.s [112,114,101,115,101,110,99,101]) (.nil)) (.b true) (.node (.leaf) 46463332092102922380 (.cons (.s [112,114,105,111,114,105,116,121]) (.nil)) (.b true) (.leaf)))
theorem k3 : m3.all (known tab2 100 26) = true := by kernel_rfl
noncomputable def g3 : Ent Tryz.prog 9 := e26.memo m3 (by kernel_rfl) Tryz.call26 k3
noncomputable def tab3 : FTree Tryz.prog 9 := .node (.node (.node (.node (.node (.node (.node (.leaf) (e7) (.leaf)) (e11) (.node (.leaf) (e13) (.leaf))) (e18) (.node (.node (.leaf) (e21) (.leaf)) (e22) (.node (.leaf) (e25) (.leaf)))) (g3) (.node (.node (.node (.leaf) (e29) (.leaf)) (g2) (.node (.leaf) (e31) (.leaf))) (e32) (.node (.node (.leaf) (e33) (.leaf)) (e34) (.node (.leaf) (e35) (.leaf))))) (e36) (.node (.node (.node (.node (.leaf) (e37) (.leaf)) (e38) (.node (.leaf) (e39) (.leaf))) (e46) (.node (.node (.leaf) (e47) (.leaf)) (e49) (.node (.leaf) (e51) (.leaf)))) (e52) (.node (.node (.node (.leaf) (e62) (.leaf)) (e63) (.node (.leaf) (e64) (.leaf))) (e65) (.node (.node (.leaf) (e66) (.leaf)) (e68) (.node (.leaf) (e70) (.leaf)))))) (e71) (.node (.node (.node (.node (.node (.leaf) (e72) (.leaf)) (e73) (.node (.leaf) (e74) (.leaf))) (e75) (.node (.node (.leaf) (e76) (.leaf)) (e77) (.node (.leaf) (e78) (.leaf)))) (e79) (.node (.node (.node (.leaf) (e80) (.leaf)) (e81) (.node (.leaf) (e83) (.leaf))) (e84) (.node (.node (.leaf) (e85) (.leaf)) (e92) (.node (.leaf) (e95) (.leaf))))) (e96) (.node (.node (.node (.node (.leaf) (e97) (.leaf)) (e102) (.node (.leaf) (e103) (.leaf))) (e104) (.node (.node (.leaf) (e105) (.leaf)) (e107) (.node (.leaf) (e115) (.leaf)))) (e116) (.node (.node (.node (.leaf) (e117) (.leaf)) (e118) (.node (.leaf) (e119) (.leaf))) (e120) (.node (.node (.leaf) (e121) (.leaf)) (e122) (.leaf)))))) (g1) (.node (.node (.node (.node (.node (.node (.leaf) (e125) (.leaf)) (e126) (.node (.leaf) (e127) (.leaf))) (e128) (.node (.node (.leaf) (e131) (.leaf)) (e132) (.node (.leaf) (e146) (.leaf)))) (e148) (.node (.node (.node (.leaf) (e149) (.leaf)) (e150) (.node (.leaf) (e151) (.leaf))) (e152) (.node (.node (.leaf) (e162) (.leaf)) (e164) (.node (.leaf) (e165) (.leaf))))) (e168) (.node (.node (.node (.node (.leaf) (e173) (.leaf)) (e174) (.node (.leaf) (e175) (.leaf))) (e176) (.node (.node (.leaf) (e177) (.leaf)) (e184) (.node (.leaf) (e185) (.leaf)))) (e186) (.node (.node (.node (.leaf) (e187) (.leaf)) (e188) (.node (.leaf) (e189) (.leaf))) (e190) (.node (.node (.leaf) (e191) (.leaf)) (e192) (.node (.leaf) (e193) (.leaf)))))) (e194) (.node (.node (.node (.node (.node (.leaf) (e195) (.leaf)) (e196) (.node (.leaf) (e197) (.leaf))) (e201) (.node (.node (.leaf) (e202) (.leaf)) (e203) (.node (.leaf) (e204) (.leaf)))) (e208) (.node (.node (.node (.leaf) (e219) (.leaf)) (e220) (.node (.leaf) (e221) (.leaf))) (e222) (.node (.node (.leaf) (e223) (.leaf)) (e225) (.node (.leaf) (e226) (.leaf))))) (e227) (.node (.node (.node (.node (.leaf) (e228) (.leaf)) (e229) (.node (.leaf) (e230) (.leaf))) (e231) (.node (.node (.leaf) (e232) (.leaf)) (e241) (.node (.leaf) (e242) (.leaf)))) (e243) (.node (.node (.node (.leaf) (e244) (.leaf)) (e246) (.node (.leaf) (e251) (.leaf))) (e252) (.node (.node (.leaf) (e253) (.leaf)) (e261) (.leaf))))))
end Go.Proofs.YtnfokaecobddkaaGreatDoor
end
section
namespace Go.Proofs.YtnfokaecobddkaaGreatDoor
open Go.Proofs.YtnfokaecobddkaaGreatDoor.Clo Go.RowKit
set_option maxRecDepth 100000
set_option maxHeartbeats 0
noncomputable def m4 : MTree := .node (.node (.node (.node (.leaf) 612 (.cons (.s [97]) (.nil)) (.b true) (.leaf)) 159441 (.cons (.s [105,100]) (.nil)) (.b true) (.leaf)) 159454 (.cons (.s [105,113]) (.nil)) (.b true) (.node (.leaf) 10719055304 (.cons (.s [116,121,112,101]) (.nil)) (.b true) (.leaf))) 2741641180477 (.cons (.s [113,117,101,114,121]) (.nil)) (.b true) (.node (.node (.leaf) 2772043137849 (.cons (.s [120,109,108,110,115]) (.nil)) (.b true) (.leaf)) 46463327624712887903 (.cons (.s [112,114,101,115,101,110,99,101]) (.nil)) (.b true) (.node (.leaf) 46463332092102922380 (.cons (.s [112,114,105,111,114,105,116,121]) (.nil)) (.b true) (.leaf)))
theorem k4 : m4.all (known tab3 100 119) = true := by kernel_rfl
noncomputable def g4 : Ent Tryz.prog 9 := e119.memo m4 (by kernel_rfl) Tryz.call119 k4
noncomputable def tab4 : FTree Tryz.prog 9 := .node (.node (.node (.node (.node (.node (.node (.leaf) (e7) (.leaf)) (e11) (.node (.leaf) (e13) (.leaf))) (e18) (.node (.node (.leaf) (e21) (.leaf)) (e22) (.node (.leaf) (e25) (.leaf)))) (g3) (.node (.node (.node (.leaf) (e29) (.leaf)) (g2) (.node (.leaf) (e31) (.leaf))) (e32) (.node (.node (.leaf) (e33) (.leaf)) (e34) (.node (.leaf) (e35) (.leaf))))) (e36) (.node (.node (.node (.node (.leaf) (e37) (.leaf)) (e38) (.node (.leaf) (e39) (.leaf))) (e46) (.node (.node (.leaf) (e47) (.leaf)) (e49) (.node (.leaf) (e51) (.leaf)))) (e52) (.node (.node (.node (.leaf) (e62) (.leaf)) (e63) (.node (.leaf) (e64) (.leaf))) (e65) (.node (.node (.leaf) (e66) (.leaf)) (e68) (.node (.leaf) (e70) (.leaf)))))) (e71) (.node (.node (.node (.node (.node (.leaf) (e72) (.leaf)) (e73) (.node (.leaf) (e74) (.leaf))) (e75) (.node (.node (.leaf) (e76) (.leaf)) (e77) (.node (.leaf) (e78) (.leaf)))) (e79) (.node (.node (.node (.leaf) (e80) (.leaf)) (e81) (.node (.leaf) (e83) (.leaf))) (e84) (.node (.node (.leaf) (e85) (.leaf)) (e92) (.node (.leaf) (e95) (.leaf))))) (e96) (.node (.node (.node (.node (.leaf) (e97) (.leaf)) (e102) (.node (.leaf) (e103) (.leaf))) (e104) (.node (.node (.leaf) (e105) (.leaf)) (e107) (.node (.leaf) (e115) (.leaf)))) (e116) (.node (.node (.node (.leaf) (e117) (.leaf)) (e118) (.node (.leaf) (g4) (.leaf))) (e120) (.node (.node (.leaf) (e121) (.leaf)) (e122) (.leaf)))))) (g1) (.node (.node (.node (.node (.node (.node (.leaf) (e125) (.leaf)) (e126) (.node (.leaf) (e127) (.leaf))) (e128) (.node (.node (.leaf) (e131) (.leaf)) (e132) (.node (.leaf) (e146) (.leaf)))) (e148) (.node (.node (.node (.leaf) (e149) (.leaf)) (e150) (.node (.leaf) (e151) (.leaf))) (e152) (.node (.node (.leaf) (e162) (.leaf)) (e164) (.node (.leaf) (e165) (.leaf))))) (e168) (.node (.node (.node (.node (.leaf) (e173) (.leaf)) (e174) (.node (.leaf) (e175) (.leaf))) (e176) (.node (.node (.leaf) (e177) (.leaf)) (e184) (.node (.leaf) (e185) (.leaf)))) (e186) (.node (.node (.node (.leaf) (e187) (.leaf)) (e188) (.node (.leaf) (e189) (.leaf))) (e190) (.node (.node (.leaf) (e191) (.leaf)) (e192) (.node (.leaf) (e193) (.leaf)))))) (e194) (.node (.node (.node (.node (.node (.leaf) (e195) (.leaf)) (e196) (.node (.leaf) (e197) (.leaf))) (e201) (.node (.node (.leaf) (e202) (.leaf)) (e203) (.node (.leaf) (e204) (.leaf)))) (e208) (.node (.node (.node (.leaf) (e219) (.leaf)) (e220) (.node (.leaf) (e221) (.leaf))) (e222) (.node (.node (.leaf) (e223) (.leaf)) (e225) (.node (.leaf) (e226) (.leaf))))) (e227) (.node (.node (.node (.node (.leaf) (e228) (.leaf)) (e229) (.node (.leaf) (e230) (.leaf))) (e231) (.node (.node (.leaf) (e232) (.leaf)) (e241) (.node (.leaf) (e242) (.leaf)))) (e243) (.node (.node (.node (.leaf) (e244) (.leaf)) (e246) (.node (.leaf) (e251) (.leaf))) (e252) (.node (.node (.leaf) (e253) (.leaf)) (e261) (.leaf))))))
end Go.Proofs.YtnfokaecobddkaaGreatDoor
end
section
namespace Go.Proofs.YtnfokaecobddkaaGreatDoor
open Go.Proofs.YtnfokaecobddkaaGreatDoor.Clo Go.RowKit
set_option maxRecDepth 100000
set_option maxHeartbeats 0
theorem run_ : runTrue tab4 100 7 = true := by kernel_rfl
theorem alive_any (w : World) (hw : 9 ≤ w.heap.size) : Calls Tryz.prog 7 #[] w fun e w' => e = .returned (.bool true) ∧ Below w.heap.size w w' := calls_true (by kernel_rfl) Tryz.call7 run_ w hw
end Go.Proofs.YtnfokaecobddkaaGreatDoor
end
section
namespace Go.Proofs.YtnfokaecobddkaaGreatDoor
open Go.RowKit
set_option linter.unusedSimpArgs false
set_option linter.unusedVariables false
set_option maxHeartbeats 32000000 in
set_option maxRecDepth 100000 in
theorem stanzaback_walk (s : StL) (A : Option Addr) (c : Nat) (v : List NodeL) (B : Option Addr) (d : Nat) (w : World) (hz : SzM s) (hr : RdW w w.heap.size A s.load) (hcv : v.length ≤ d) (hrv : RdV w w.heap.size B v) (hzv : SzV maxLen v) (hg : Glb w) (h9 : 9 ≤ w.heap.size) :
    Calls Tryz.prog 4 #[encS s A c, .slice B v.length d] w fun e w' => e = .returned (.bool true) ∧ Below w.heap.size w w' := by
  obtain ⟨W0, hW0⟩ : ∃ W0, W0 = w.alloc (.cells #[.int .u8 s.kind, .string s.typ, .string s.id, .string s.frm, .string s.to, .slice A s.load.length c] 24) := ⟨_, rfl⟩
  have hX0 : Below w.heap.size w W0 := by rw [hW0]; exact (Below.refl _ _).alloc (Nat.le_refl _) _
  have hS0 : SAt W0 w.heap.size s A c := by rw [hW0]; exact SAt.new _ _ _ _ _
  have S := Lib.hid hS0
  have RS := Lib.hid (RdW.ext hr hX0)
  have RV := Lib.hid ((hrv.below hX0 (Nat.le_refl _)).more hX0.size)
  have GL := Lib.hid (hg.below hX0)
  have X := Lib.hid hX0
  have HZ := Lib.hid hz
  have HZV := Lib.hid hzv
  have HCV := Lib.hid hcv
  have HC := Lib.hid (alive_any W0 (Nat.le_trans h9 hX0.size))
  clear hX0 hS0 hr hrv hzv hcv hg hz h9
  unfold encS at *
  go_enter Tryz.func4, Tryz.ntmps4
  go_upto_region 1 with fail
  rw [← hW0]
  clear hW0
  go_wp2_with fail
  refine HC.out.mono ?_
  rintro e w1 ⟨rfl, hb⟩
  replace S := Lib.hid (S.out.ext hb)
  replace RS := Lib.hid (RdW.ext RS.out hb)
  replace RV := Lib.hid ((RV.out.below hb (Nat.le_refl _)).more hb.size)
  replace GL := Lib.hid (GL.out.below hb)
  replace X := Lib.hid (X.out.trans (hb.mono X.out.size))
  clear hb HC
  have HC := Lib.hid (great22m_any s A c w1 RS.out)
  unfold GreatS encS at HC
  have a0 := S.out.c0
  have a1 := S.out.c1
  have a2 := S.out.c2
  have a3 := S.out.c3
  have a4 := S.out.c4
  have a5 := S.out.c5
  go_wp2_with fail
  refine HC.out.mono ?_
  rintro e w2 ⟨g1, rfl, hb, hgs⟩
  have HGS := Lib.hid hgs
  clear hgs
  replace S := Lib.hid (S.out.ext hb)
  replace RS := Lib.hid (RdW.ext RS.out hb)
  replace RV := Lib.hid ((RV.out.below hb (Nat.le_refl _)).more hb.size)
  replace GL := Lib.hid (GL.out.below hb)
  replace X := Lib.hid (X.out.trans (hb.mono X.out.size))
  clear hb HC
  clear a0 a1 a2 a3 a4 a5
  cases g1 with
  | true =>
    go_wp2
    go_ret
    exact ⟨rfl, X.out⟩
  | false =>
    have HB := Lib.hid (HZ.out.b (HGS.out rfl).1 (HGS.out rfl).2)
    have hln := HB.out.2.2.2.2.2.1
    clear HGS
    have HC := Lib.hid (great_any v B d w2 RV.out)
    unfold GreatPost at HC
    go_wp2_with fail
    refine HC.out.mono ?_
    rintro e w3 ⟨g2, rfl, hb, hgs⟩
    have HGS := Lib.hid hgs
    clear hgs
    replace S := Lib.hid (S.out.ext hb)
    replace RS := Lib.hid (RdW.ext RS.out hb)
    replace RV := Lib.hid ((RV.out.below hb (Nat.le_refl _)).more hb.size)
    replace GL := Lib.hid (GL.out.below hb)
    replace X := Lib.hid (X.out.trans (hb.mono X.out.size))
    clear hb HC
    cases g2 with
    | true =>
      go_wp2
      go_ret
      exact ⟨rfl, X.out⟩
    | false =>
      have HV := Lib.hid (small_v HZV.out (HGS.out rfl).1 (HGS.out rfl).2)
      have hvl := HV.out.1
      clear HGS HZV
      have HC := Lib.hid (build9_any s A c w3 HB.out RS.out GL.out)
      unfold BuildPost encS at HC
      have a0 := S.out.c0
      have a1 := S.out.c1
      have a2 := S.out.c2
      have a3 := S.out.c3
      have a4 := S.out.c4
      have a5 := S.out.c5
      go_wp2_with fail
      refine HC.out.mono ?_
      rintro e w4 ⟨A3, c3, rfl, hl3, hn3, hb⟩
      have RX := Lib.hid hn3.rdv
      have HL3 := Lib.hid hl3
      clear hn3 hl3
      replace S := Lib.hid (S.out.ext hb)
      replace RS := Lib.hid (RdW.ext RS.out hb)
      replace RV := Lib.hid ((RV.out.below hb (Nat.le_refl _)).more hb.size)
      replace GL := Lib.hid (GL.out.below hb)
      replace X := Lib.hid (X.out.trans (hb.mono X.out.size))
      clear hb HC
      clear a0 a1 a2 a3 a4 a5
      by_cases hbe : buildE s = 0
      · have hst := HB.out
        have HSS : Hid (SzS s) := Lib.hid (by
          refine stn_szs ?_ HB.out
          unfold buildE at hbe
          cases hs : stnI s with
          | true => rfl
          | false => rw [hs] at hbe; simp at hbe)
        clear hst
        have HNB := Lib.hid (back_one hbe)
        have HBZ := Lib.hid (built_szv HSS.out hbe)
        rw [hbe]
        clear hbe
        have hbl := HBZ.out.1
        obtain ⟨x, hx⟩ : ∃ x, x = buildV s := ⟨_, rfl⟩
        rw [← hx] at HNB HBZ RX HL3 hbl ⊢
        clear hx
        have HC := Lib.hid (sread_any x A3 c3 w4 HL3.out HBZ.out RX.out GL.out)
        unfold ReadPost at HC
        rw [HNB.out.1, HNB.out.2] at HC
        go_wp2_with fail
        refine HC.out.mono ?_
        rintro e w5 ⟨A5, c5, ts5, rfl, hl5, hm5, hrow5, hb⟩
        have R5 := Lib.hid (RowT.rdw hrow5 (by rw [← hm5, List.length_map]))
        rw [hm5] at R5
        clear hl5 hm5 hrow5
        replace S := Lib.hid (S.out.ext hb)
        replace RS := Lib.hid (RdW.ext RS.out hb)
        replace RV := Lib.hid ((RV.out.below hb (Nat.le_refl _)).more hb.size)
        replace GL := Lib.hid (GL.out.below hb)
        replace X := Lib.hid (X.out.trans (hb.mono X.out.size))
        clear hb HC RX HNB HBZ HL3
        obtain ⟨W5, hWa⟩ : ∃ W5, W5 = w5.alloc (.cells #[.int .u8 s.kind, .string s.typ, .string s.id, .string s.frm, .string s.to, .slice A5 s.load.length c5] 24) := ⟨_, rfl⟩
        have hb : Below w5.heap.size w5 W5 := by rw [hWa]; exact (Below.refl _ _).alloc (Nat.le_refl _) _
        have D : Hid (SAt W5 w5.heap.size s A5 c5) := Lib.hid (by rw [hWa]; exact SAt.new _ _ _ _ _)
        replace S := Lib.hid (S.out.ext hb)
        replace RS := Lib.hid (RdW.ext RS.out hb)
        replace RV := Lib.hid ((RV.out.below hb (Nat.le_refl _)).more hb.size)
        replace GL := Lib.hid (GL.out.below hb)
        replace X := Lib.hid (X.out.trans (hb.mono X.out.size))
        replace R5 := Lib.hid (RdW.ext R5.out hb)
        clear hb
        unfold encS
        go_upto_region 7 with fail
        rw [← hWa]
        clear hWa
        generalize w5.heap.size = g5 at *
        have HC := Lib.hid (ssame_any s s A5 A c5 c W5 R5.out RS.out HSS.out.2.2.2.2.2 HSS.out.2.2.2.2.2)
        rw [selfS] at HC
        unfold encS at HC
        have a0 := S.out.c0
        have a1 := S.out.c1
        have a2 := S.out.c2
        have a3 := S.out.c3
        have a4 := S.out.c4
        have a5 := S.out.c5
        have b0 := D.out.c0
        have b1 := D.out.c1
        have b2 := D.out.c2
        have b3 := D.out.c3
        have b4 := D.out.c4
        have b5 := D.out.c5
        go_wp2_with fail
        refine HC.out.mono ?_
        rintro e w6 ⟨rfl, hb⟩
        replace S := Lib.hid (S.out.ext hb)
        replace RS := Lib.hid (RdW.ext RS.out hb)
        replace RV := Lib.hid ((RV.out.below hb (Nat.le_refl _)).more hb.size)
        replace GL := Lib.hid (GL.out.below hb)
        replace X := Lib.hid (X.out.trans (hb.mono X.out.size))
        clear hb HC R5 D
        clear a0 a1 a2 a3 a4 a5 b0 b1 b2 b3 b4 b5
        have HC := Lib.hid (sread_any v B d w6 HCV.out HV.out RV.out GL.out)
        unfold ReadPost at HC
        go_wp2_with fail
        refine HC.out.mono ?_
        rintro e w7 ⟨A7, c7, ts7, rfl, hl7, hm7, hrow7, hb⟩
        have RT := Lib.hid (RowT.rdw hrow7 (by rw [← hm7, List.length_map]))
        rw [hm7] at RT
        clear hl7 hm7 hrow7
        replace S := Lib.hid (S.out.ext hb)
        replace RS := Lib.hid (RdW.ext RS.out hb)
        replace RV := Lib.hid ((RV.out.below hb (Nat.le_refl _)).more hb.size)
        replace GL := Lib.hid (GL.out.below hb)
        replace X := Lib.hid (X.out.trans (hb.mono X.out.size))
        clear hb HC
        obtain ⟨W7, hWa⟩ : ∃ W7, W7 = w7.alloc (.cells #[.int .u8 (readS v).kind, .string (readS v).typ, .string (readS v).id, .string (readS v).frm, .string (readS v).to, .slice A7 (readS v).load.length c7] 24) := ⟨_, rfl⟩
        have hb : Below w7.heap.size w7 W7 := by rw [hWa]; exact (Below.refl _ _).alloc (Nat.le_refl _) _
        have C : Hid (SAt W7 w7.heap.size (readS v) A7 c7) := Lib.hid (by rw [hWa]; exact SAt.new _ _ _ _ _)
        replace S := Lib.hid (S.out.ext hb)
        replace RS := Lib.hid (RdW.ext RS.out hb)
        replace RV := Lib.hid ((RV.out.below hb (Nat.le_refl _)).more hb.size)
        replace GL := Lib.hid (GL.out.below hb)
        replace X := Lib.hid (X.out.trans (hb.mono X.out.size))
        replace RT := Lib.hid (RdW.ext RT.out hb)
        clear hb
        unfold encS
        go_upto_region 10 with fail
        rw [← hWa]
        clear hWa
        generalize w7.heap.size = g7 at *
        by_cases hre : readE v = 0
        · have HTZ := Lib.hid (read_szw HV.out hre)
          have HTB := Lib.hid (back_two hre)
          have htl := HTZ.out.2.2.2.2.2.1
          rw [hre]
          have HNB := Lib.hid (back_one HTB.out)
          have HBZ := Lib.hid (built_szv HTZ.out HTB.out)
          clear hre
          generalize readS v = t at *
          have HC := Lib.hid (build_any t A7 c7 W7 HTZ.out RT.out GL.out)
          unfold BuildPost encS at HC
          rw [HTB.out] at HC
          have hbl := HBZ.out.1
          obtain ⟨u, hu⟩ : ∃ u, u = buildV t := ⟨_, rfl⟩
          rw [← hu] at HC HNB HBZ hbl
          clear hu
          have a0 := C.out.c0
          have a1 := C.out.c1
          have a2 := C.out.c2
          have a3 := C.out.c3
          have a4 := C.out.c4
          have a5 := C.out.c5
          go_wp2_with fail
          refine HC.out.mono ?_
          rintro e w8 ⟨A8, c8, rfl, hl8, hn8, hb⟩
          have RU := Lib.hid hn8.rdv
          have HL8 := Lib.hid hl8
          clear hn8 hl8
          replace S := Lib.hid (S.out.ext hb)
          replace RS := Lib.hid (RdW.ext RS.out hb)
          replace RV := Lib.hid ((RV.out.below hb (Nat.le_refl _)).more hb.size)
          replace GL := Lib.hid (GL.out.below hb)
          replace X := Lib.hid (X.out.trans (hb.mono X.out.size))
          replace RT := Lib.hid (RdW.ext RT.out hb)
          replace C := Lib.hid (C.out.ext hb)
          clear hb HC
          clear a0 a1 a2 a3 a4 a5
          have HC := Lib.hid (sread_any u A8 c8 w8 HL8.out HBZ.out RU.out GL.out)
          unfold ReadPost at HC
          rw [HNB.out.1, HNB.out.2] at HC
          go_wp2_with fail
          refine HC.out.mono ?_
          rintro e w9 ⟨A9, c9, ts9, rfl, hl9, hm9, hrow9, hb⟩
          have R9 := Lib.hid (RowT.rdw hrow9 (by rw [← hm9, List.length_map]))
          rw [hm9] at R9
          clear hl9 hm9 hrow9
          replace S := Lib.hid (S.out.ext hb)
          replace RS := Lib.hid (RdW.ext RS.out hb)
          replace RV := Lib.hid ((RV.out.below hb (Nat.le_refl _)).more hb.size)
          replace GL := Lib.hid (GL.out.below hb)
          replace X := Lib.hid (X.out.trans (hb.mono X.out.size))
          replace RT := Lib.hid (RdW.ext RT.out hb)
          replace C := Lib.hid (C.out.ext hb)
          clear hb HC
          obtain ⟨W9, hWa⟩ : ∃ W9, W9 = w9.alloc (.cells #[.int .u8 t.kind, .string t.typ, .string t.id, .string t.frm, .string t.to, .slice A9 t.load.length c9] 24) := ⟨_, rfl⟩
          have hb : Below w9.heap.size w9 W9 := by rw [hWa]; exact (Below.refl _ _).alloc (Nat.le_refl _) _
          have D9 : Hid (SAt W9 w9.heap.size t A9 c9) := Lib.hid (by rw [hWa]; exact SAt.new _ _ _ _ _)
          replace S := Lib.hid (S.out.ext hb)
          replace RS := Lib.hid (RdW.ext RS.out hb)
          replace RV := Lib.hid ((RV.out.below hb (Nat.le_refl _)).more hb.size)
          replace GL := Lib.hid (GL.out.below hb)
          replace X := Lib.hid (X.out.trans (hb.mono X.out.size))
          replace RT := Lib.hid (RdW.ext RT.out hb)
          replace C := Lib.hid (C.out.ext hb)
          replace R9 := Lib.hid (RdW.ext R9.out hb)
          clear hb
          unfold encS
          go_upto_region 14 with fail
          rw [← hWa]
          clear hWa
          generalize w9.heap.size = g9 at *
          have HC := Lib.hid (ssame_any t t A9 A7 c9 c7 W9 R9.out RT.out HTZ.out.2.2.2.2.2 HTZ.out.2.2.2.2.2)
          rw [selfS] at HC
          unfold encS at HC
          have a0 := C.out.c0
          have a1 := C.out.c1
          have a2 := C.out.c2
          have a3 := C.out.c3
          have a4 := C.out.c4
          have a5 := C.out.c5
          have b0 := D9.out.c0
          have b1 := D9.out.c1
          have b2 := D9.out.c2
          have b3 := D9.out.c3
          have b4 := D9.out.c4
          have b5 := D9.out.c5
          go_wp2_with fail
          refine HC.out.mono ?_
          rintro e w10 ⟨rfl, hb⟩
          replace X := Lib.hid (X.out.trans (hb.mono X.out.size))
          clear hb HC
          clear a0 a1 a2 a3 a4 a5 b0 b1 b2 b3 b4 b5
          go_wp2
          go_ret
          exact ⟨rfl, X.out⟩
        · rw [read_bad hre] at C
          have hq : ¬ readE v = 0 := hre
          generalize readE v = q at *
          clear hre
          have a0 := C.out.c0
          have a1 := C.out.c1
          have a2 := C.out.c2
          have a3 := C.out.c3
          have a4 := C.out.c4
          have a5 := C.out.c5
          go_wp2
          go_ret
          exact ⟨rfl, X.out⟩
      · have hq3 : ¬ buildE s = 0 := hbe
        have hbv : buildV s = [] := by
          unfold buildV
          cases hs : stnI s with
          | false => rfl
          | true => unfold buildE at hbe; rw [hs] at hbe; exact putE_ne _ _ hbe
        rw [hbv]
        clear hbv hbe RX HL3
        generalize buildE s = q3 at *
        have HC := Lib.hid (sread_any v B d w4 HCV.out HV.out RV.out GL.out)
        unfold ReadPost at HC
        go_wp2_with fail
        refine HC.out.mono ?_
        rintro e w7 ⟨A7, c7, ts7, rfl, hl7, hm7, hrow7, hb⟩
        have RT := Lib.hid (RowT.rdw hrow7 (by rw [← hm7, List.length_map]))
        rw [hm7] at RT
        clear hl7 hm7 hrow7
        replace S := Lib.hid (S.out.ext hb)
        replace RS := Lib.hid (RdW.ext RS.out hb)
        replace RV := Lib.hid ((RV.out.below hb (Nat.le_refl _)).more hb.size)
        replace GL := Lib.hid (GL.out.below hb)
        replace X := Lib.hid (X.out.trans (hb.mono X.out.size))
        clear hb HC
        obtain ⟨W7, hWa⟩ : ∃ W7, W7 = w7.alloc (.cells #[.int .u8 (readS v).kind, .string (readS v).typ, .string (readS v).id, .string (readS v).frm, .string (readS v).to, .slice A7 (readS v).load.length c7] 24) := ⟨_, rfl⟩
        have hb : Below w7.heap.size w7 W7 := by rw [hWa]; exact (Below.refl _ _).alloc (Nat.le_refl _) _
        have C : Hid (SAt W7 w7.heap.size (readS v) A7 c7) := Lib.hid (by rw [hWa]; exact SAt.new _ _ _ _ _)
        replace S := Lib.hid (S.out.ext hb)
        replace RS := Lib.hid (RdW.ext RS.out hb)
        replace RV := Lib.hid ((RV.out.below hb (Nat.le_refl _)).more hb.size)
        replace GL := Lib.hid (GL.out.below hb)
        replace X := Lib.hid (X.out.trans (hb.mono X.out.size))
        replace RT := Lib.hid (RdW.ext RT.out hb)
        clear hb
        unfold encS
        go_upto_region 10 with fail
        rw [← hWa]
        clear hWa
        generalize w7.heap.size = g7 at *
        by_cases hre : readE v = 0
        · have HTZ := Lib.hid (read_szw HV.out hre)
          have HTB := Lib.hid (back_two hre)
          have htl := HTZ.out.2.2.2.2.2.1
          rw [hre]
          have HNB := Lib.hid (back_one HTB.out)
          have HBZ := Lib.hid (built_szv HTZ.out HTB.out)
          clear hre
          generalize readS v = t at *
          have HC := Lib.hid (build_any t A7 c7 W7 HTZ.out RT.out GL.out)
          unfold BuildPost encS at HC
          rw [HTB.out] at HC
          have hbl := HBZ.out.1
          obtain ⟨u, hu⟩ : ∃ u, u = buildV t := ⟨_, rfl⟩
          rw [← hu] at HC HNB HBZ hbl
          clear hu
          have a0 := C.out.c0
          have a1 := C.out.c1
          have a2 := C.out.c2
          have a3 := C.out.c3
          have a4 := C.out.c4
          have a5 := C.out.c5
          go_wp2_with fail
          refine HC.out.mono ?_
          rintro e w8 ⟨A8, c8, rfl, hl8, hn8, hb⟩
          have RU := Lib.hid hn8.rdv
          have HL8 := Lib.hid hl8
          clear hn8 hl8
          replace S := Lib.hid (S.out.ext hb)
          replace RS := Lib.hid (RdW.ext RS.out hb)
          replace RV := Lib.hid ((RV.out.below hb (Nat.le_refl _)).more hb.size)
          replace GL := Lib.hid (GL.out.below hb)
          replace X := Lib.hid (X.out.trans (hb.mono X.out.size))
          replace RT := Lib.hid (RdW.ext RT.out hb)
          replace C := Lib.hid (C.out.ext hb)
          clear hb HC
          clear a0 a1 a2 a3 a4 a5
          have HC := Lib.hid (sread_any u A8 c8 w8 HL8.out HBZ.out RU.out GL.out)
          unfold ReadPost at HC
          rw [HNB.out.1, HNB.out.2] at HC
          go_wp2_with fail
          refine HC.out.mono ?_
          rintro e w9 ⟨A9, c9, ts9, rfl, hl9, hm9, hrow9, hb⟩
          have R9 := Lib.hid (RowT.rdw hrow9 (by rw [← hm9, List.length_map]))
          rw [hm9] at R9
          clear hl9 hm9 hrow9
          replace S := Lib.hid (S.out.ext hb)
          replace RS := Lib.hid (RdW.ext RS.out hb)
          replace RV := Lib.hid ((RV.out.below hb (Nat.le_refl _)).more hb.size)
          replace GL := Lib.hid (GL.out.below hb)
          replace X := Lib.hid (X.out.trans (hb.mono X.out.size))
          replace RT := Lib.hid (RdW.ext RT.out hb)
          replace C := Lib.hid (C.out.ext hb)
          clear hb HC
          obtain ⟨W9, hWa⟩ : ∃ W9, W9 = w9.alloc (.cells #[.int .u8 t.kind, .string t.typ, .string t.id, .string t.frm, .string t.to, .slice A9 t.load.length c9] 24) := ⟨_, rfl⟩
          have hb : Below w9.heap.size w9 W9 := by rw [hWa]; exact (Below.refl _ _).alloc (Nat.le_refl _) _
          have D9 : Hid (SAt W9 w9.heap.size t A9 c9) := Lib.hid (by rw [hWa]; exact SAt.new _ _ _ _ _)
          replace S := Lib.hid (S.out.ext hb)
          replace RS := Lib.hid (RdW.ext RS.out hb)
          replace RV := Lib.hid ((RV.out.below hb (Nat.le_refl _)).more hb.size)
          replace GL := Lib.hid (GL.out.below hb)
          replace X := Lib.hid (X.out.trans (hb.mono X.out.size))
          replace RT := Lib.hid (RdW.ext RT.out hb)
          replace C := Lib.hid (C.out.ext hb)
          replace R9 := Lib.hid (RdW.ext R9.out hb)
          clear hb
          unfold encS
          go_upto_region 14 with fail
          rw [← hWa]
          clear hWa
          generalize w9.heap.size = g9 at *
          have HC := Lib.hid (ssame_any t t A9 A7 c9 c7 W9 R9.out RT.out HTZ.out.2.2.2.2.2 HTZ.out.2.2.2.2.2)
          rw [selfS] at HC
          unfold encS at HC
          have a0 := C.out.c0
          have a1 := C.out.c1
          have a2 := C.out.c2
          have a3 := C.out.c3
          have a4 := C.out.c4
          have a5 := C.out.c5
          have b0 := D9.out.c0
          have b1 := D9.out.c1
          have b2 := D9.out.c2
          have b3 := D9.out.c3
          have b4 := D9.out.c4
          have b5 := D9.out.c5
          go_wp2_with fail
          refine HC.out.mono ?_
          rintro e w10 ⟨rfl, hb⟩
          replace X := Lib.hid (X.out.trans (hb.mono X.out.size))
          clear hb HC
          clear a0 a1 a2 a3 a4 a5 b0 b1 b2 b3 b4 b5
          go_wp2
          go_ret
          exact ⟨rfl, X.out⟩
        · rw [read_bad hre] at C
          have hq : ¬ readE v = 0 := hre
          generalize readE v = q at *
          clear hre
          have a0 := C.out.c0
          have a1 := C.out.c1
          have a2 := C.out.c2
          have a3 := C.out.c3
          have a4 := C.out.c4
          have a5 := C.out.c5
          go_wp2
          go_ret
          exact ⟨rfl, X.out⟩
end Go.Proofs.YtnfokaecobddkaaGreatDoor
end
section
namespace Go.Proofs.YtnfokaecobddkaaGreatDoor
open Go.Joins Go.ChangeShapes Go.WideShapes Go.RowKit Go.Deep
set_option linter.unusedSimpArgs false
set_option linter.unusedVariables false
section
variable {H : Type} {enc : TypeId × Value → H} {W : World} {base : Nat} {spare : Nat → Bool} {held : Bool}
theorem open_trees {fuel : Nat} {cs : List Value} {x : DataW H × List MemPlace} (h : DataW.trod enc Tryz.prog W base spare held fuel 22 cs = some x) :
    ∃ (A : Option Addr) (l : List (List NodeL)) (c : Nat), cs = [.slice A l.length c] ∧ l.length ≤ c ∧ RdW W W.heap.size A l ∧ ∀ v ∈ l, SzV maxLen v := by
  rcases open_slice Tryz.underlying22 h with h0 | ⟨a, len, cap, m, n, D, Pl, hcs, hb, hl, hm, hmm, hx, hi⟩
  · exact ⟨none, [], 0, h0.1, Nat.le_refl _, fun h => absurd h (by simp), by simp⟩
  · obtain ⟨l, rfl, hp⟩ := list_of (P := fun i (x : List NodeL) => (∃ A' c', W.cell? (a.add i) = some (.slice A' x.length c') ∧ x.length ≤ c' ∧ RdV W W.heap.size A' x) ∧ SzV maxLen x) len fun i hil => by
      obtain ⟨cs', hc, ht'⟩ := hi i (by rw [hmm]; split <;> omega)
      obtain ⟨A', v, c', rfl, q1, q2, q3⟩ := open_nodes ht'
      rw [show Tryz.prog.cellsOf 30 = 1 by kernel_rfl, Nat.mul_one] at hc
      obtain ⟨_, hcl, hat⟩ := World.cells?_some hc
      have h0 := hat 0 (by omega)
      refine ⟨v, ⟨A', c', ?_, q1, q2⟩, q3⟩
      have e : (a.add i).add 0 = a.add i := by simp [Addr.add]
      rw [e] at h0
      exact h0
    refine ⟨some a, l, cap, hcs, hl, fun h0 => ?_, fun x hx => ?_⟩
    · obtain ⟨A', c', hcell, _⟩ := (hp 0 l[0] (List.getElem?_eq_getElem h0)).1
      obtain ⟨b, off, rfl, hb2⟩ := addr_of hcell
      refine ⟨b, off, rfl, hb2, fun i x hx => ?_⟩
      obtain ⟨A'', c'', q1, q2, q3⟩ := (hp i x hx).1
      exact ⟨A'', c'', by simpa only [add_mk] using q1, q2, q3⟩
    · obtain ⟨i, hi, rfl⟩ := List.mem_iff_getElem.1 hx
      exact (hp i _ (List.getElem?_eq_getElem hi)).2
set_option maxRecDepth 100000 in
theorem open_agg6 {r : Reach} {b0 : Nat} {t : TypeId} {f0 f1 f2 f3 f4 f5 : Field} {v : Value} {d : DataW H} {p : List MemPlace} (hs : Tryz.prog.underlying t = some (.struct #[f0, f1, f2, f3, f4, f5])) (hone : oneCellFields Tryz.prog #[f0, f1, f2, f3, f4, f5] = true) (hC : Tryz.prog.cellsOf t = 6)
    (hv : Value.okWide Tryz.prog W r b0 t v) (h : DataW.Trod enc Tryz.prog W base spare held t v d p) :
    ∃ (v0 v1 v2 v3 v4 v5 : Value) (y0 y1 y2 y3 y4 y5 : DataW H × List MemPlace) (n : Nat), v = .agg #[v0, v1, v2, v3, v4, v5] ∧ d = .agg ([y0, y1, y2, y3, y4, y5].map (·.1)) ∧
      DataW.trod enc Tryz.prog W base spare held n f0.type [v0] = some y0 ∧ DataW.trod enc Tryz.prog W base spare held n f1.type [v1] = some y1 ∧ DataW.trod enc Tryz.prog W base spare held n f2.type [v2] = some y2 ∧ DataW.trod enc Tryz.prog W base spare held n f3.type [v3] = some y3 ∧ DataW.trod enc Tryz.prog W base spare held n f4.type [v4] = some y4 ∧ DataW.trod enc Tryz.prog W base spare held n f5.type [v5] = some y5 := by
  obtain ⟨cs, rfl, hsz⟩ := okWide_struct hs hv
  obtain ⟨l⟩ := cs
  match l, hsz.trans hC with
  | [c0, c1, c2, c3, c4, c5], _ =>
    obtain ⟨fuel, hf⟩ := h
    obtain ⟨xs, n, _, hx, _, hlen, hg⟩ := DataW.trod_struct hs hf
    obtain ⟨o0, k0⟩ := hone_of hone 0 f0 rfl
    obtain ⟨o1, k1⟩ := hone_of hone 1 f1 rfl
    obtain ⟨o2, k2⟩ := hone_of hone 2 f2 rfl
    obtain ⟨o3, k3⟩ := hone_of hone 3 f3 rfl
    obtain ⟨o4, k4⟩ := hone_of hone 4 f4 rfl
    obtain ⟨o5, k5⟩ := hone_of hone 5 f5 rfl
    match xs, hlen with
    | [y0, y1, y2, y3, y4, y5], _ =>
      simp only [Prod.mk.injEq] at hx
      exact ⟨c0, c1, c2, c3, c4, c5, y0, y1, y2, y3, y4, y5, n, rfl, hx.1, by simpa [Value.cells, o0, k0] using hg 0 f0 rfl, by simpa [Value.cells, o1, k1] using hg 1 f1 rfl, by simpa [Value.cells, o2, k2] using hg 2 f2 rfl, by simpa [Value.cells, o3, k3] using hg 3 f3 rfl, by simpa [Value.cells, o4, k4] using hg 4 f4 rfl, by simpa [Value.cells, o5, k5] using hg 5 f5 rfl⟩
set_option maxRecDepth 100000 in
theorem open_stanza {r : Reach} {b0 : Nat} {v : Value} {d : DataW H} {p : List MemPlace} (hv : Value.okWide Tryz.prog W r b0 24 v) (h : DataW.Trod enc Tryz.prog W base spare held 24 v d p) :
    ∃ (s : StL) (A : Option Addr) (c : Nat), v = encS s A c ∧ s.load.length ≤ c ∧ RdW W W.heap.size A s.load ∧ SzM s := by
  obtain ⟨v0, v1, v2, v3, v4, v5, y0, y1, y2, y3, y4, y5, n, rfl, rfl, t0, t1, t2, t3, t4, t5⟩ := open_agg6 Tryz.underlying24 (by kernel_rfl) (by kernel_rfl) hv h
  obtain ⟨s0, e0, _, z0⟩ := DataW.trod_int Tryz.underlying5 t0
  obtain ⟨s1, e1, _, z1⟩ := DataW.trod_string Tryz.underlying9 t1
  obtain ⟨s2, e2, _, z2⟩ := DataW.trod_string Tryz.underlying9 t2
  obtain ⟨s3, e3, _, z3⟩ := DataW.trod_string Tryz.underlying9 t3
  obtain ⟨s4, e4, _, z4⟩ := DataW.trod_string Tryz.underlying9 t4
  obtain ⟨A, l, c, e5, q1, q2, q3⟩ := open_trees t5
  simp only [List.cons.injEq, and_true] at e0 e1 e2 e3 e4 e5
  subst e0 e1 e2 e3 e4 e5
  exact ⟨⟨s0, s1, s2, s3, s4, l⟩, A, c, rfl, q1, q2, wf_u8 z0, z1, z2, z3, z4, q3⟩
end
end Go.Proofs.YtnfokaecobddkaaGreatDoor
end
section
namespace Go.Proofs.YtnfokaecobddkaaGreatDoor.stanzaBackDone
open Go.ChangeShapes Go.WideShapes Go.ChangeAt Go.RowKit Go.Lib
open Go.ChangeMaps (open_string shut_string)
set_option linter.unusedVariables false
noncomputable def laidWorld (os : Os) : World :=
  let w0 := World.doorLaid Tryz.prog 79 os
  { w0 with heap := w0.heap.modify 2 fun
    | .cells _ t frozen => .cells (Lib.firstTab.map fun z => Value.int .u8 z).toArray t frozen
    | o => o }
theorem laid_met (os : Os) (args : Array Value) : laidMetH Tryz.prog Rows.stanzaBackRow.laid ((laidWorld os).forCall (fun _ _ => 0) ⟨#[], args, []⟩).memory :=
  laidMetH_of_parts3 (fuel := 8) (laidMet_of_run' 8 (by kernel_rfl) (by kernel_rfl)) (by kernel_rfl) (by kernel_rfl)
theorem witness_row (os : Os) {H : Type} (enc : TypeId × Value → H) :
    (OpenSpec.ofChange Rows.stanzaBackSpec).preRow enc Tryz.prog Tryz.f4 Rows.stanzaBackRow.domain false Rows.stanzaBackRow.laid ((laidWorld os).forCall (fun _ _ => 0) ⟨#[], #[.agg #[.int .u8 0, .string ⟨#[]⟩, .string ⟨#[]⟩, .string ⟨#[]⟩, .string ⟨#[]⟩, .slice none 0 0], .slice none 0 0], []⟩).memory #[.agg #[.int .u8 0, .string ⟨#[]⟩, .string ⟨#[]⟩, .string ⟨#[]⟩, .string ⟨#[]⟩, .slice none 0 0], .slice none 0 0] := by
  have hw : (DataW.whole enc Tryz.prog ((laidWorld os).forCall (fun _ _ => 0) ⟨#[], #[.agg #[.int .u8 0, .string ⟨#[]⟩, .string ⟨#[]⟩, .string ⟨#[]⟩, .string ⟨#[]⟩, .slice none 0 0], .slice none 0 0], []⟩).memory Tryz.f4.params.toList (OpenSpec.ofChange Rows.stanzaBackSpec).vars false #[Value.agg #[.int .u8 0, .string ⟨#[]⟩, .string ⟨#[]⟩, .string ⟨#[]⟩, .string ⟨#[]⟩, .slice none 0 0], Value.slice none 0 0].toList 8).map (fun x => (x.1, x.2.1)) =
      some ([.agg [.lit (.int .u8 0), .lit (.string []), .lit (.string []), .lit (.string []), .lit (.string []), .nil], .nil], []) := by kernel_rfl
  obtain ⟨⟨x1, x2, x3⟩, hx, hx1⟩ := Option.map_eq_some_iff.1 hw
  simp only [Prod.mk.injEq] at hx1
  obtain ⟨rfl, rfl⟩ := hx1
  exact OpenSpec.preRow_of_cond 8 hx (by kernel_rfl) (fun k hk => by cases hk) (by kernel_rfl) (laid_met os _)
theorem size_of {W : World} (h : W.ShapedOpen Tryz.prog) : 9 ≤ W.heap.size := by
  have hs : (((begin Tryz.prog (fun _ _ => 0) default).world.heap[8]?).bind Obj.row?).isSome = true := by kernel_rfl
  obtain ⟨⟨zero, t⟩, h0⟩ := Option.isSome_iff_exists.1 hs
  obtain ⟨cs, hh, _⟩ := h.1 8 zero t (of_decide_eq_true (by kernel_rfl)) h0
  have := (Array.getElem?_eq_some_iff.1 hh).1
  omega
theorem glb_of {W : World} (h : W.ShapedOpen Tryz.prog) : Glb W :=
  Go.Proofs.cell_of_shapedOpen_int (zero := #[.int .i64 0]) (t := 3) h (of_decide_eq_true (by kernel_rfl)) (by kernel_rfl) rfl (by kernel_rfl) (by kernel_rfl) Tryz.underlying3
set_option maxRecDepth 100000 in
set_option maxHeartbeats 2000000 in
theorem lifted (os : Os) (started : os.Started) (H : Type) (enc : TypeId × Value → H) (F : Stop.Interp) :
    ReturnsInHanded {} Tryz.checked os 4 .any ((OpenSpec.ofChange Rows.stanzaBackSpec).preRow enc Tryz.prog Tryz.f4 Rows.stanzaBackRow.domain false Rows.stanzaBackRow.laid) (((OpenSpec.ofChange Rows.stanzaBackSpec).at F).post enc Tryz.prog Tryz.f4 false true false false) := by
  refine returnsInHanded_of_row (C := Tryz.checked) (s := OpenSpec.ofChange Rows.stanzaBackSpec) own started (by kernel_rfl) Tryz.func4
    (witness_row_atRef (enc := enc) (C := Tryz.checked) false (laidWorld os) #[.agg #[.int .u8 0, .string ⟨#[]⟩, .string ⟨#[]⟩, .string ⟨#[]⟩, .string ⟨#[]⟩, .slice none 0 0], .slice none 0 0] rfl (by kernel_rfl) (by kernel_rfl) (by kernel_rfl) (witness_row os enc)) ?_
  intro W base args ds gs before hval0 hW _ _ _ _ hsh _
  have hval : ∀ (j : Nat) t v, Tryz.f4.params[j]? = some t → args[j]? = some v → Value.okWide Tryz.prog W .any base t v := hval0
  have hW' := hW
  obtain ⟨p, q, hA0, hV, rfl, hfz, hnd⟩ := hW
  have hA : DataW.TrodAll enc Tryz.prog W 0 (fun _ => true) true Tryz.f4.params.toList args.toList ds p := hA0
  rw [Tryz.params4] at hA hval
  obtain ⟨v0, vs0, d0, ds0, p0, q0, hargs, rfl, rfl, h0, r0⟩ := trodAll_cons hA
  obtain ⟨v1, vs1, d1, ds1, p1, q1, rfl, rfl, rfl, h1, r1⟩ := trodAll_cons r0
  obtain ⟨rfl, rfl, rfl⟩ := trodAll_nil r1
  obtain rfl : args = #[v0, v1] := by cases args; simp_all
  obtain ⟨rfl, rfl⟩ := trodVars_none hV
  have k0 := h0
  have k1 := h1
  have lt0 : ∀ x ∈ p0, x.block < W.heap.size := by obtain ⟨m, hm⟩ := k0; exact DataW.trod_lt m _ _ _ hm
  have lt1 : ∀ x ∈ p1, x.block < W.heap.size := by obtain ⟨m, hm⟩ := k1; exact DataW.trod_lt m _ _ _ hm
  obtain ⟨s, A, c, rfl, hc, hr, hz⟩ := open_stanza (hval 0 24 v0 rfl rfl) h0
  obtain ⟨a1, len1, cap1, rfl⟩ := okWide_slice Tryz.underlying30 (hval 1 30 v1 rfl rfl)
  obtain ⟨B, v, d, hcs, hcv, hrv, hzv⟩ : ∃ (B : Option Addr) (v : List NodeL) (d : Nat), [Value.slice a1 len1 cap1] = [.slice B v.length d] ∧ v.length ≤ d ∧ RdV W W.heap.size B v ∧ SzV maxLen v := by
    obtain ⟨fuel, hf⟩ := h1
    simp only [Value.cells] at hf
    exact open_nodes hf
  simp only [List.cons.injEq, Value.slice.injEq, and_true] at hcs
  obtain ⟨rfl, rfl, rfl⟩ := hcs
  clear hA0 hval0
  refine (stanzaback_walk s A c v a1 cap1 W hz hr hcv hrv hzv (glb_of hsh) (size_of hsh)).mono fun e W' ⟨he, bel⟩ => ?_
  subst he
  exact ⟨_, rfl, _, _, _, [], _, [], hW', trodAll_mk1 (shut_bool Tryz.underlying4 _), (trodAll_cons_mk (Below.trod laidOut (by kernel_rfl) (of_decide_eq_true (by kernel_rfl)) k0 bel lt0) (trodAll_cons_mk (Below.trod laidOut (by kernel_rfl) (of_decide_eq_true (by kernel_rfl)) k1 bel lt1) trodAll_mk0)), rfl, bel.frame _, fun h => by cases h⟩
end Go.Proofs.YtnfokaecobddkaaGreatDoor.stanzaBackDone
end
section
namespace Go.Proofs.YtnfokaecobddkaaGreatDoor.stanzaBackDone
open Go.ChangeShapes Go.WideShapes Go.ChangeAt Go.RowKit Go.Lib
set_option linter.unusedVariables false
theorem closed : joinedFacts Tryz.prog 4 Tryz.f4 (OpenSpec.ofChange Rows.stanzaBackSpec).bare Rows.stanzaBackRow = true := by
  delta joinedFacts
  rewrite [may_enter, lifts_final, make_cut, laidOut, maps_rowed, stops_heard, stops_none, stopKnobs_none]
  kernel_rfl
theorem inst : Tryz.f4.isInstance Tryz.prog Rows.stanzaBackRow.origin Rows.stanzaBackRow.targs := of_decide_eq_true (by kernel_rfl)
theorem wrap : Tryz.f4.isWrapper Tryz.prog Rows.stanzaBackRow.wrapper Rows.stanzaBackRow.mainSum := by unfold Func.isWrapper; first | (rw [if_pos (by decide +kernel)]; kernel_rfl) | (rw [if_neg (by decide +kernel)]; exact ⟨rfl, rfl⟩)
set_option maxRecDepth 100000 in
theorem over : Rows.stanzaBackRow.holds Tryz.pinned (OpenSpec.ofChange Rows.stanzaBackSpec) :=
  OpenClaim.holds_of_cond 4 Tryz.f4 rfl rfl rfl rfl rfl rfl rfl ⟨rfl, rfl, rfl, rfl, rfl⟩ rfl rfl rfl rfl rfl (by kernel_rfl) Tryz.func4 closed inst wrap
    (fun os started H enc _ F0 => by rw [OpenClaim.pre_eq_preRow]; exact lifted os started H enc F0)
theorem proved : Rows.StanzaBackCardSaid :=
  Claim7.holds_tied_plain_at .later [] [.data, .data, .data, .data, .handle, .sentinel, .sentinel, .pinned] true (true, "abfa91dde2a6f935aa99e589864e0708bd7b244e11d42d0d05ae914af1c71258") true
    over (fun _ h => by cases h) (by kernel_rfl) (fun _ h => by cases h) stanzaBack_row_tie rfl ⟨rfl, rfl⟩ (by kernel_rfl) rfl
    (fun f fn hf hfn => by
      obtain rfl : f = 4 := Option.some.inj ((show Tryz.prog.funcNamed "tidewaiter/tidewaiterlaw22.StanzaBack" = some 4 by kernel_rfl).symm.trans hf) |>.symm
      obtain rfl : fn = Tryz.f4 := (Option.some.inj (Tryz.func4.symm.trans hfn)).symm
      exact ⟨by kernel_rfl, fun j t ht => by
        rw [Tryz.params4] at ht
        have h3 : t = 24 ∨ t = 30 := by
          rcases j with _ | _ | j
          · exact .inl (by simpa using ht.symm)
          · exact .inr (by simpa using ht.symm)
          · simp at ht
        rcases h3 with rfl | rfl
        · exact (show Tryz.prog.wantsStandIn 24 = false by kernel_rfl)
        · exact (show Tryz.prog.wantsStandIn 30 = false by kernel_rfl)⟩)
    (by kernel_rfl)
#print axioms proved
end Go.Proofs.YtnfokaecobddkaaGreatDoor.stanzaBackDone
end
