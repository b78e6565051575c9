/- The call of the law StanzaFails returns true at every stanza and word; the arguments read behind the call as they read before. Conditions: the tables and the errors of the library read as its text lays them. -/
import Derived.Test.YtnfokaecobddkaaGreatDoorZ24
import Derived.Test.YtnfokaecobddkaaGreatDoorZ14
import Derived.Test.YtnfokaecobddkaaGreatDoorZ15
import Derived.Test.YtnfokaecobddkaaGreatDoorZ16
import Derived.Deep.Cut
import Derived.Test.YtnfokaecobddkaaGreatDoorZ12
import Derived.Test.YtnfokaecobddkaaGreatDoorZ07
import Derived.Lib.SmallJoins
import Derived.Test.YtnfokaecobddkaaGreatDoorZ01
import Derived.WalkKit
import Derived.ProofKit
import Derived.OpenShut
import Derived.ShutString
import Derived.ChangeOld
import Derived.Below
import Derived.Deep.DeepHandedRow
import Derived.Deep.DeepWitnessRowRef
import Derived.SizedLaws
import Derived.Shelf.LaysM
import Derived.LaidMore
import Derived.LaidOnce
import Derived.Stop.Joined
import Derived.Lib.LaidU8
import Derived.Lib.DecodeN
import Derived.JoinedCond
import Derived.Test.YtnfokaecobddkaaGreatDoorCards
import Derived.Test.YtnfokaecobddkaaGreatDoorTie
import Derived.SevenTiedAt
set_option linter.all false
section
namespace Go.Proofs.YtnfokaecobddkaaGreatDoor
open Go.Proofs.YtnfokaecobddkaaGreatDoor.Clo Go.RowKit
set_option maxRecDepth 100000
set_option maxHeartbeats 0
noncomputable def m3 : MTree := .node (.node (.node (.node (.leaf) 612 (.cons (.s [97]) (.nil)) (.b true) (.leaf)) 159441 (.cons (.s [105,100]) (.nil)) (.b true) (.leaf)) 159454 (.cons (.s [105,113]) (.nil)) (.b true) (.node (.leaf) 10719055304 (.cons (.s [116,121,112,101]) (.nil)) (.b true) (.leaf))) 2741641180477 (.cons (.s [113,117,101,114,121]) (.nil)) (.b true) (.node (.node (.leaf) 2772043137849 (.cons (.s [120,109,108,110,115]) (.nil)) (.b true) (.leaf)) 46463327624712887903 (.cons (.s [112,114,101,115,101,110,99,101]) (.nil)) (.b true) (.node (.leaf) 46463332092102922380 (.cons (.s [112,114,105,111,114,105,116,121]) (.nil)) (.b true) (.leaf)))
theorem k3 : m3.all (known tab2 100 26) = true := by kernel_rfl
noncomputable def g3 : Ent Tryz.prog 9 := e26.memo m3 (by kernel_rfl) Tryz.call26 k3
noncomputable def tab3 : FTree Tryz.prog 9 := .node (.node (.node (.node (.node (.node (.node (.leaf) (e7) (.leaf)) (e11) (.node (.leaf) (e13) (.leaf))) (e18) (.node (.node (.leaf) (e21) (.leaf)) (e22) (.node (.leaf) (e25) (.leaf)))) (g3) (.node (.node (.node (.leaf) (e29) (.leaf)) (g2) (.node (.leaf) (e31) (.leaf))) (e32) (.node (.node (.leaf) (e33) (.leaf)) (e34) (.node (.leaf) (e35) (.leaf))))) (e36) (.node (.node (.node (.node (.leaf) (e37) (.leaf)) (e38) (.node (.leaf) (e39) (.leaf))) (e46) (.node (.node (.leaf) (e47) (.leaf)) (e49) (.node (.leaf) (e51) (.leaf)))) (e52) (.node (.node (.node (.leaf) (e62) (.leaf)) (e63) (.node (.leaf) (e64) (.leaf))) (e65) (.node (.node (.leaf) (e66) (.leaf)) (e68) (.node (.leaf) (e70) (.leaf)))))) (e71) (.node (.node (.node (.node (.node (.leaf) (e72) (.leaf)) (e73) (.node (.leaf) (e74) (.leaf))) (e75) (.node (.node (.leaf) (e76) (.leaf)) (e77) (.node (.leaf) (e78) (.leaf)))) (e79) (.node (.node (.node (.leaf) (e80) (.leaf)) (e81) (.node (.leaf) (e83) (.leaf))) (e84) (.node (.node (.leaf) (e85) (.leaf)) (e92) (.node (.leaf) (e95) (.leaf))))) (e96) (.node (.node (.node (.node (.leaf) (e97) (.leaf)) (e102) (.node (.leaf) (e103) (.leaf))) (e104) (.node (.node (.leaf) (e105) (.leaf)) (e107) (.node (.leaf) (e115) (.leaf)))) (e116) (.node (.node (.node (.leaf) (e117) (.leaf)) (e118) (.node (.leaf) (e119) (.leaf))) (e120) (.node (.node (.leaf) (e121) (.leaf)) (e122) (.leaf)))))) (g1) (.node (.node (.node (.node (.node (.node (.leaf) (e125) (.leaf)) (e126) (.node (.leaf) (e127) (.leaf))) (e128) (.node (.node (.leaf) (e131) (.leaf)) (e132) (.node (.leaf) (e146) (.leaf)))) (e148) (.node (.node (.node (.leaf) (e149) (.leaf)) (e150) (.node (.leaf) (e151) (.leaf))) (e152) (.node (.node (.leaf) (e162) (.leaf)) (e164) (.node (.leaf) (e165) (.leaf))))) (e168) (.node (.node (.node (.node (.leaf) (e173) (.leaf)) (e174) (.node (.leaf) (e175) (.leaf))) (e176) (.node (.node (.leaf) (e177) (.leaf)) (e184) (.node (.leaf) (e185) (.leaf)))) (e186) (.node (.node (.node (.leaf) (e187) (.leaf)) (e188) (.node (.leaf) (e189) (.leaf))) (e190) (.node (.node (.leaf) (e191) (.leaf)) (e192) (.node (.leaf) (e193) (.leaf)))))) (e194) (.node (.node (.node (.node (.node (.leaf) (e195) (.leaf)) (e196) (.node (.leaf) (e197) (.leaf))) (e201) (.node (.node (.leaf) (e202) (.leaf)) (e203) (.node (.leaf) (e204) (.leaf)))) (e208) (.node (.node (.node (.leaf) (e219) (.leaf)) (e220) (.node (.leaf) (e221) (.leaf))) (e222) (.node (.node (.leaf) (e223) (.leaf)) (e225) (.node (.leaf) (e226) (.leaf))))) (e227) (.node (.node (.node (.node (.leaf) (e228) (.leaf)) (e229) (.node (.leaf) (e230) (.leaf))) (e231) (.node (.node (.leaf) (e232) (.leaf)) (e241) (.node (.leaf) (e242) (.leaf)))) (e243) (.node (.node (.node (.leaf) (e244) (.leaf)) (e246) (.node (.leaf) (e251) (.leaf))) (e252) (.node (.node (.leaf) (e253) (.leaf)) (e261) (.leaf))))))
end Go.Proofs.YtnfokaecobddkaaGreatDoor
end
section
namespace Go.Proofs.YtnfokaecobddkaaGreatDoor
open Go.Proofs.YtnfokaecobddkaaGreatDoor.Clo Go.RowKit
set_option maxRecDepth 100000
set_option maxHeartbeats 0
noncomputable def m4 : MTree := .node (.node (.node (.node (.leaf) 612 (.cons (.s [97]) (.nil)) (.b true) (.leaf)) 159441 (.cons (.s [105,100]) (.nil)) (.b true) (.leaf)) 159454 (.cons (.s [105,113]) (.nil)) (.b true) (.node (.leaf) 10719055304 (.cons (.s [116,121,112,101]) (.nil)) (.b true) (.leaf))) 2741641180477 (.cons (.s [113,117,101,114,121]) (.nil)) (.b true) (.node (.node (.leaf) 2772043137849 (.cons (.s [120,109,108,110,115]) (.nil)) (.b true) (.leaf)) 46463327624712887903 (.cons (.s [112,114,101,115,101,110,99,101]) (.nil)) (.b true) (.node (.leaf) 46463332092102922380 (.cons (.s [112,114,105,111,114,105,116,121]) (.nil)) (.b true) (.leaf)))
theorem k4 : m4.all (known tab3 100 119) = true := by kernel_rfl
noncomputable def g4 : Ent Tryz.prog 9 := e119.memo m4 (by kernel_rfl) Tryz.call119 k4
noncomputable def tab4 : FTree Tryz.prog 9 := .node (.node (.node (.node (.node (.node (.node (.leaf) (e7) (.leaf)) (e11) (.node (.leaf) (e13) (.leaf))) (e18) (.node (.node (.leaf) (e21) (.leaf)) (e22) (.node (.leaf) (e25) (.leaf)))) (g3) (.node (.node (.node (.leaf) (e29) (.leaf)) (g2) (.node (.leaf) (e31) (.leaf))) (e32) (.node (.node (.leaf) (e33) (.leaf)) (e34) (.node (.leaf) (e35) (.leaf))))) (e36) (.node (.node (.node (.node (.leaf) (e37) (.leaf)) (e38) (.node (.leaf) (e39) (.leaf))) (e46) (.node (.node (.leaf) (e47) (.leaf)) (e49) (.node (.leaf) (e51) (.leaf)))) (e52) (.node (.node (.node (.leaf) (e62) (.leaf)) (e63) (.node (.leaf) (e64) (.leaf))) (e65) (.node (.node (.leaf) (e66) (.leaf)) (e68) (.node (.leaf) (e70) (.leaf)))))) (e71) (.node (.node (.node (.node (.node (.leaf) (e72) (.leaf)) (e73) (.node (.leaf) (e74) (.leaf))) (e75) (.node (.node (.leaf) (e76) (.leaf)) (e77) (.node (.leaf) (e78) (.leaf)))) (e79) (.node (.node (.node (.leaf) (e80) (.leaf)) (e81) (.node (.leaf) (e83) (.leaf))) (e84) (.node (.node (.leaf) (e85) (.leaf)) (e92) (.node (.leaf) (e95) (.leaf))))) (e96) (.node (.node (.node (.node (.leaf) (e97) (.leaf)) (e102) (.node (.leaf) (e103) (.leaf))) (e104) (.node (.node (.leaf) (e105) (.leaf)) (e107) (.node (.leaf) (e115) (.leaf)))) (e116) (.node (.node (.node (.leaf) (e117) (.leaf)) (e118) (.node (.leaf) (g4) (.leaf))) (e120) (.node (.node (.leaf) (e121) (.leaf)) (e122) (.leaf)))))) (g1) (.node (.node (.node (.node (.node (.node (.leaf) (e125) (.leaf)) (e126) (.node (.leaf) (e127) (.leaf))) (e128) (.node (.node (.leaf) (e131) (.leaf)) (e132) (.node (.leaf) (e146) (.leaf)))) (e148) (.node (.node (.node (.leaf) (e149) (.leaf)) (e150) (.node (.leaf) (e151) (.leaf))) (e152) (.node (.node (.leaf) (e162) (.leaf)) (e164) (.node (.leaf) (e165) (.leaf))))) (e168) (.node (.node (.node (.node (.leaf) (e173) (.leaf)) (e174) (.node (.leaf) (e175) (.leaf))) (e176) (.node (.node (.leaf) (e177) (.leaf)) (e184) (.node (.leaf) (e185) (.leaf)))) (e186) (.node (.node (.node (.leaf) (e187) (.leaf)) (e188) (.node (.leaf) (e189) (.leaf))) (e190) (.node (.node (.leaf) (e191) (.leaf)) (e192) (.node (.leaf) (e193) (.leaf)))))) (e194) (.node (.node (.node (.node (.node (.leaf) (e195) (.leaf)) (e196) (.node (.leaf) (e197) (.leaf))) (e201) (.node (.node (.leaf) (e202) (.leaf)) (e203) (.node (.leaf) (e204) (.leaf)))) (e208) (.node (.node (.node (.leaf) (e219) (.leaf)) (e220) (.node (.leaf) (e221) (.leaf))) (e222) (.node (.node (.leaf) (e223) (.leaf)) (e225) (.node (.leaf) (e226) (.leaf))))) (e227) (.node (.node (.node (.node (.leaf) (e228) (.leaf)) (e229) (.node (.leaf) (e230) (.leaf))) (e231) (.node (.node (.leaf) (e232) (.leaf)) (e241) (.node (.leaf) (e242) (.leaf)))) (e243) (.node (.node (.node (.leaf) (e244) (.leaf)) (e246) (.node (.leaf) (e251) (.leaf))) (e252) (.node (.node (.leaf) (e253) (.leaf)) (e261) (.leaf))))))
end Go.Proofs.YtnfokaecobddkaaGreatDoor
end
section
namespace Go.Proofs.YtnfokaecobddkaaGreatDoor
open Go.Proofs.YtnfokaecobddkaaGreatDoor.Clo Go.RowKit
set_option maxRecDepth 100000
set_option maxHeartbeats 0
theorem run_ : runTrue tab4 100 7 = true := by kernel_rfl
theorem alive_any (w : World) (hw : 9 ≤ w.heap.size) : Calls Tryz.prog 7 #[] w fun e w' => e = .returned (.bool true) ∧ Below w.heap.size w w' := calls_true (by kernel_rfl) Tryz.call7 run_ w hw
end Go.Proofs.YtnfokaecobddkaaGreatDoor
end
section
namespace Go.Proofs.YtnfokaecobddkaaGreatDoor
open Go.RowKit
set_option linter.unusedSimpArgs false
set_option linter.unusedVariables false
theorem failS_sz {s : StL} {word : ByteArray} (hz : SzS s) (hw : word.size ≤ 1000000000) : SzS (failS s word) := by
  obtain ⟨h1, h2, h3, h4, h5, -⟩ := hz
  refine ⟨h1, by show (5 : Nat) ≤ _; omega, h3, h5, h4, by show (1 : Nat) ≤ _; omega, fun v hv => ?_⟩
  have : v = failV word := List.mem_singleton.1 hv
  subst this
  refine ⟨by show (2 : Nat) ≤ _; omega, fun n hn => ?_⟩
  unfold failV at hn
  simp only [List.mem_cons, List.mem_nil_iff, or_false] at hn
  rcases hn with rfl | rfl
  · exact errH_sz 1 (by omega) (by omega)
  · exact ((errN_szw hw).2 _ (List.mem_singleton.2 rfl)).2 _ (List.mem_singleton.2 rfl)
set_option maxHeartbeats 32000000 in
set_option maxRecDepth 100000 in
theorem stanzafails_walk (s : StL) (A : Option Addr) (c : Nat) (word : ByteArray) (w : World) (hz : SzM s) (hr : RdW w w.heap.size A s.load) (hg : Glb w) (h9 : 9 ≤ w.heap.size) :
    Calls Tryz.prog 3 #[encS s A c, .string word] w fun e w' => e = .returned (.bool true) ∧ Below w.heap.size w w' := by
  obtain ⟨W0, hW0⟩ : ∃ W0, W0 = w.alloc (.cells #[.int .u8 s.kind, .string s.typ, .string s.id, .string s.frm, .string s.to, .slice A s.load.length c] 24) := ⟨_, rfl⟩
  have hX0 : Below w.heap.size w W0 := by rw [hW0]; exact (Below.refl _ _).alloc (Nat.le_refl _) _
  have hS0 : SAt W0 w.heap.size s A c := by rw [hW0]; exact SAt.new _ _ _ _ _
  have S := Lib.hid hS0
  have RS := Lib.hid (RdW.ext hr hX0)
  have GL := Lib.hid (hg.below hX0)
  have X := Lib.hid hX0
  have HZ := Lib.hid hz
  have HC := Lib.hid (alive_any W0 (Nat.le_trans h9 hX0.size))
  clear hX0 hS0 hr hg hz h9
  unfold encS at *
  go_enter Tryz.func3, Tryz.ntmps3
  go_upto_region 1 with fail
  rw [← hW0]
  clear hW0
  go_wp2_with fail
  refine HC.out.mono ?_
  rintro e w1 ⟨rfl, hb⟩
  replace S := Lib.hid (S.out.ext hb)
  replace RS := Lib.hid (RdW.ext RS.out hb)
  replace GL := Lib.hid (GL.out.below hb)
  replace X := Lib.hid (X.out.trans (hb.mono X.out.size))
  clear hb HC
  have HC := Lib.hid (great22m_any s A c w1 RS.out)
  unfold GreatS encS at HC
  have a0 := S.out.c0
  have a1 := S.out.c1
  have a2 := S.out.c2
  have a3 := S.out.c3
  have a4 := S.out.c4
  have a5 := S.out.c5
  go_wp2_with fail
  refine HC.out.mono ?_
  rintro e w2 ⟨g1, rfl, hb, hgs⟩
  have HGS := Lib.hid hgs
  clear hgs
  replace S := Lib.hid (S.out.ext hb)
  replace RS := Lib.hid (RdW.ext RS.out hb)
  replace GL := Lib.hid (GL.out.below hb)
  replace X := Lib.hid (X.out.trans (hb.mono X.out.size))
  clear hb HC
  clear a0 a1 a2 a3 a4 a5
  cases g1 with
  | true =>
    go_wp2
    go_ret
    exact ⟨rfl, X.out⟩
  | false =>
    by_cases h5 : 500 < word.size
    · have h5i : (500 : Int) < (word.size : Int) := by omega
      go_wp2
      go_ret
      exact ⟨rfl, X.out⟩
    · have h5i : ¬ (500 : Int) < (word.size : Int) := by omega
      have HB := Lib.hid (HZ.out.b (HGS.out rfl).1 (HGS.out rfl).2)
      have hln := HB.out.2.2.2.2.2.1
      have HWD : Hid (word.size ≤ 1000000000) := Lib.hid (by omega)
      clear HGS
      have HC := Lib.hid (sfail9_any s A c word w2 HB.out RS.out HWD.out GL.out)
      unfold FailsPost encS at HC
      have a0 := S.out.c0
      have a1 := S.out.c1
      have a2 := S.out.c2
      have a3 := S.out.c3
      have a4 := S.out.c4
      have a5 := S.out.c5
      go_wp2_with fail
      refine HC.out.mono ?_
      rintro e w3 ⟨A3, c3, rfl, hl3, hn3, hb⟩
      replace S := Lib.hid (S.out.ext hb)
      replace RS := Lib.hid (RdW.ext RS.out hb)
      replace GL := Lib.hid (GL.out.below hb)
      replace X := Lib.hid (X.out.trans (hb.mono X.out.size))
      have RC := Lib.hid hn3.now
      clear hn3 hl3
      clear hb HC
      clear a0 a1 a2 a3 a4 a5
      obtain ⟨W3, hWa⟩ : ∃ W3, W3 = w3.alloc (.cells #[.int .u8 (failR s word).kind, .string (failR s word).typ, .string (failR s word).id, .string (failR s word).frm, .string (failR s word).to, .slice A3 (failR s word).load.length c3] 24) := ⟨_, rfl⟩
      have hb : Below w3.heap.size w3 W3 := by rw [hWa]; exact (Below.refl _ _).alloc (Nat.le_refl _) _
      have C : Hid (SAt W3 w3.heap.size (failR s word) A3 c3) := Lib.hid (by rw [hWa]; exact SAt.new _ _ _ _ _)
      replace S := Lib.hid (S.out.ext hb)
      replace RS := Lib.hid (RdW.ext RS.out hb)
      replace GL := Lib.hid (GL.out.below hb)
      replace X := Lib.hid (X.out.trans (hb.mono X.out.size))
      replace RC := Lib.hid (RdW.ext RC.out hb)
      clear hb
      go_upto_region 5 with fail
      rw [← hWa]
      clear hWa
      generalize w3.heap.size = g3 at *
      by_cases hok : stnI s = true ∧ (mayF s && nameI word) = true
      · obtain ⟨hst, hmn⟩ := hok
        have hnm : nameI word = true := by rw [Bool.and_eq_true] at hmn; exact hmn.2
        obtain ⟨e1, e2⟩ := fail_yes hst hmn
        rw [e1] at C RC
        rw [e2]
        clear e1 e2
        have HZF := Lib.hid (failS_sz (stn_szs hst HB.out) HWD.out)
        have HSF := Lib.hid (fail_stn hst hnm)
        have HFA := Lib.hid (fail_again hst hnm word)
        have HFB := Lib.hid (fail_build hst hnm)
        have HFR : Hid (failR (failS s word) word = emS) := Lib.hid (fail_no HSF.out (by have := HFA.out; unfold failE at this; rw [HSF.out, if_pos rfl] at this; cases h : (mayF (failS s word) && nameI word) with | false => rfl | true => rw [h, if_pos rfl] at this; cases this)).1
        have HTF : Hid ((failS s word).kind = s.kind ∧ (failS s word).typ = (⟨#[101, 114, 114, 111, 114]⟩ : ByteArray) ∧ (failS s word).id = s.id ∧ (failS s word).frm = s.to ∧ (failS s word).to = s.frm) := Lib.hid ⟨rfl, rfl, rfl, rfl, rfl⟩
        clear hst hmn hnm
        have hln2 : (failS s word).load.length ≤ 1000000000 := HZF.out.2.2.2.2.2.1
        generalize failS s word = f at *
        have HC := Lib.hid (sfail_any f A3 c3 word W3 HZF.out RC.out HWD.out GL.out)
        unfold FailsPost encS at HC
        have a0 := C.out.c0
        have a1 := C.out.c1
        have a2 := C.out.c2
        have a3 := C.out.c3
        have a4 := C.out.c4
        have a5 := C.out.c5
        go_wp2_with fail
        refine HC.out.mono ?_
        rintro e w4 ⟨A4, c4, rfl, -, -, hb⟩
        rw [HFR.out, HFA.out]
        replace S := Lib.hid (S.out.ext hb)
        replace RS := Lib.hid (RdW.ext RS.out hb)
        replace GL := Lib.hid (GL.out.below hb)
        replace X := Lib.hid (X.out.trans (hb.mono X.out.size))
        replace RC := Lib.hid (RdW.ext RC.out hb)
        replace C := Lib.hid (C.out.ext hb)
        clear hb HC
        clear a0 a1 a2 a3 a4 a5
        obtain ⟨W4, hWa⟩ : ∃ W4, W4 = w4.alloc (.cells #[.int .u8 emS.kind, .string emS.typ, .string emS.id, .string emS.frm, .string emS.to, .slice A4 emS.load.length c4] 24) := ⟨_, rfl⟩
        have hb : Below w4.heap.size w4 W4 := by rw [hWa]; exact (Below.refl _ _).alloc (Nat.le_refl _) _
        replace S := Lib.hid (S.out.ext hb)
        replace RS := Lib.hid (RdW.ext RS.out hb)
        replace GL := Lib.hid (GL.out.below hb)
        replace X := Lib.hid (X.out.trans (hb.mono X.out.size))
        replace RC := Lib.hid (RdW.ext RC.out hb)
        replace C := Lib.hid (C.out.ext hb)
        clear hb
        go_upto_region 8 with fail
        rw [← hWa]
        clear hWa
        have HC := Lib.hid (build_any f A3 c3 W4 HZF.out RC.out GL.out)
        unfold BuildPost encS at HC
        have a0 := C.out.c0
        have a1 := C.out.c1
        have a2 := C.out.c2
        have a3 := C.out.c3
        have a4 := C.out.c4
        have a5 := C.out.c5
        go_wp2_with fail
        refine HC.out.mono ?_
        rintro e w5 ⟨A5, c5, rfl, -, -, hb⟩
        rw [HFB.out]
        replace S := Lib.hid (S.out.ext hb)
        replace RS := Lib.hid (RdW.ext RS.out hb)
        replace GL := Lib.hid (GL.out.below hb)
        replace X := Lib.hid (X.out.trans (hb.mono X.out.size))
        replace RC := Lib.hid (RdW.ext RC.out hb)
        replace C := Lib.hid (C.out.ext hb)
        clear hb HC
        clear a0 a1 a2 a3 a4 a5
        have HC := Lib.hid (scheck_any f A3 c3 w5 HZF.out RC.out GL.out)
        have hse : stnErr f = 0 := by unfold stnErr; rw [HSF.out]; rfl
        rw [hse] at HC
        unfold encS at HC
        obtain ⟨q1, q2, q3, q4, q5⟩ := HTF.out
        have a0 := C.out.c0
        have a1 := C.out.c1
        have a2 := C.out.c2
        have a3 := C.out.c3
        have a4 := C.out.c4
        have a5 := C.out.c5
        have b0 := S.out.c0
        have b1 := S.out.c1
        have b2 := S.out.c2
        have b3 := S.out.c3
        have b4 := S.out.c4
        have b5 := S.out.c5
        rw [q1, q2, q3, q4, q5] at HC
        rw [q1] at a0
        rw [q2] at a1
        rw [q3] at a2
        rw [q4] at a3
        rw [q5] at a4
        clear q1 q2 q3 q4 q5
        go_wp2_with fail
        refine HC.out.mono ?_
        rintro e w6 ⟨rfl, hb⟩
        replace S := Lib.hid (S.out.ext hb)
        replace RS := Lib.hid (RdW.ext RS.out hb)
        replace GL := Lib.hid (GL.out.below hb)
        replace X := Lib.hid (X.out.trans (hb.mono X.out.size))
        replace RC := Lib.hid (RdW.ext RC.out hb)
        replace C := Lib.hid (C.out.ext hb)
        clear hb HC
        clear a0 a1 a2 a3 a4 a5 b0 b1 b2 b3 b4 b5
        go_wp2
        go_ret
        exact ⟨rfl, X.out⟩
      · have hno : failR s word = emS ∧ failE s word ≠ 0 := by
          cases hst : stnI s with
          | false => obtain ⟨e1, e2⟩ := fail_bad (word := word) hst; exact ⟨e1, by rw [e2]; omega⟩
          | true =>
            cases hmn : (mayF s && nameI word) with
            | false => obtain ⟨e1, e2⟩ := fail_no hst hmn; exact ⟨e1, by rw [e2]; omega⟩
            | true => exact absurd ⟨hst, hmn⟩ hok
        obtain ⟨e1, e2⟩ := hno
        rw [e1] at C
        clear hok e1
        generalize failE s word = q at *
        have hq : ¬ q = 0 := e2
        clear e2
        have a0 := C.out.c0
        have a1 := C.out.c1
        have a2 := C.out.c2
        have a3 := C.out.c3
        have a4 := C.out.c4
        have a5 := C.out.c5
        go_wp2
        go_ret
        exact ⟨rfl, X.out⟩
      end Go.Proofs.YtnfokaecobddkaaGreatDoor
end
section
namespace Go.Proofs.YtnfokaecobddkaaGreatDoor
open Go.Joins Go.ChangeShapes Go.WideShapes Go.RowKit Go.Deep
set_option linter.unusedSimpArgs false
set_option linter.unusedVariables false
section
variable {H : Type} {enc : TypeId × Value → H} {W : World} {base : Nat} {spare : Nat → Bool} {held : Bool}
theorem open_trees {fuel : Nat} {cs : List Value} {x : DataW H × List MemPlace} (h : DataW.trod enc Tryz.prog W base spare held fuel 22 cs = some x) :
    ∃ (A : Option Addr) (l : List (List NodeL)) (c : Nat), cs = [.slice A l.length c] ∧ l.length ≤ c ∧ RdW W W.heap.size A l ∧ ∀ v ∈ l, SzV maxLen v := by
  rcases open_slice Tryz.underlying22 h with h0 | ⟨a, len, cap, m, n, D, Pl, hcs, hb, hl, hm, hmm, hx, hi⟩
  · exact ⟨none, [], 0, h0.1, Nat.le_refl _, fun h => absurd h (by simp), by simp⟩
  · obtain ⟨l, rfl, hp⟩ := list_of (P := fun i (x : List NodeL) => (∃ A' c', W.cell? (a.add i) = some (.slice A' x.length c') ∧ x.length ≤ c' ∧ RdV W W.heap.size A' x) ∧ SzV maxLen x) len fun i hil => by
      obtain ⟨cs', hc, ht'⟩ := hi i (by rw [hmm]; split <;> omega)
      obtain ⟨A', v, c', rfl, q1, q2, q3⟩ := open_nodes ht'
      rw [show Tryz.prog.cellsOf 30 = 1 by kernel_rfl, Nat.mul_one] at hc
      obtain ⟨_, hcl, hat⟩ := World.cells?_some hc
      have h0 := hat 0 (by omega)
      refine ⟨v, ⟨A', c', ?_, q1, q2⟩, q3⟩
      have e : (a.add i).add 0 = a.add i := by simp [Addr.add]
      rw [e] at h0
      exact h0
    refine ⟨some a, l, cap, hcs, hl, fun h0 => ?_, fun x hx => ?_⟩
    · obtain ⟨A', c', hcell, _⟩ := (hp 0 l[0] (List.getElem?_eq_getElem h0)).1
      obtain ⟨b, off, rfl, hb2⟩ := addr_of hcell
      refine ⟨b, off, rfl, hb2, fun i x hx => ?_⟩
      obtain ⟨A'', c'', q1, q2, q3⟩ := (hp i x hx).1
      exact ⟨A'', c'', by simpa only [add_mk] using q1, q2, q3⟩
    · obtain ⟨i, hi, rfl⟩ := List.mem_iff_getElem.1 hx
      exact (hp i _ (List.getElem?_eq_getElem hi)).2
set_option maxRecDepth 100000 in
theorem open_agg6 {r : Reach} {b0 : Nat} {t : TypeId} {f0 f1 f2 f3 f4 f5 : Field} {v : Value} {d : DataW H} {p : List MemPlace} (hs : Tryz.prog.underlying t = some (.struct #[f0, f1, f2, f3, f4, f5])) (hone : oneCellFields Tryz.prog #[f0, f1, f2, f3, f4, f5] = true) (hC : Tryz.prog.cellsOf t = 6)
    (hv : Value.okWide Tryz.prog W r b0 t v) (h : DataW.Trod enc Tryz.prog W base spare held t v d p) :
    ∃ (v0 v1 v2 v3 v4 v5 : Value) (y0 y1 y2 y3 y4 y5 : DataW H × List MemPlace) (n : Nat), v = .agg #[v0, v1, v2, v3, v4, v5] ∧ d = .agg ([y0, y1, y2, y3, y4, y5].map (·.1)) ∧
      DataW.trod enc Tryz.prog W base spare held n f0.type [v0] = some y0 ∧ DataW.trod enc Tryz.prog W base spare held n f1.type [v1] = some y1 ∧ DataW.trod enc Tryz.prog W base spare held n f2.type [v2] = some y2 ∧ DataW.trod enc Tryz.prog W base spare held n f3.type [v3] = some y3 ∧ DataW.trod enc Tryz.prog W base spare held n f4.type [v4] = some y4 ∧ DataW.trod enc Tryz.prog W base spare held n f5.type [v5] = some y5 := by
  obtain ⟨cs, rfl, hsz⟩ := okWide_struct hs hv
  obtain ⟨l⟩ := cs
  match l, hsz.trans hC with
  | [c0, c1, c2, c3, c4, c5], _ =>
    obtain ⟨fuel, hf⟩ := h
    obtain ⟨xs, n, _, hx, _, hlen, hg⟩ := DataW.trod_struct hs hf
    obtain ⟨o0, k0⟩ := hone_of hone 0 f0 rfl
    obtain ⟨o1, k1⟩ := hone_of hone 1 f1 rfl
    obtain ⟨o2, k2⟩ := hone_of hone 2 f2 rfl
    obtain ⟨o3, k3⟩ := hone_of hone 3 f3 rfl
    obtain ⟨o4, k4⟩ := hone_of hone 4 f4 rfl
    obtain ⟨o5, k5⟩ := hone_of hone 5 f5 rfl
    match xs, hlen with
    | [y0, y1, y2, y3, y4, y5], _ =>
      simp only [Prod.mk.injEq] at hx
      exact ⟨c0, c1, c2, c3, c4, c5, y0, y1, y2, y3, y4, y5, n, rfl, hx.1, by simpa [Value.cells, o0, k0] using hg 0 f0 rfl, by simpa [Value.cells, o1, k1] using hg 1 f1 rfl, by simpa [Value.cells, o2, k2] using hg 2 f2 rfl, by simpa [Value.cells, o3, k3] using hg 3 f3 rfl, by simpa [Value.cells, o4, k4] using hg 4 f4 rfl, by simpa [Value.cells, o5, k5] using hg 5 f5 rfl⟩
set_option maxRecDepth 100000 in
theorem open_stanza {r : Reach} {b0 : Nat} {v : Value} {d : DataW H} {p : List MemPlace} (hv : Value.okWide Tryz.prog W r b0 24 v) (h : DataW.Trod enc Tryz.prog W base spare held 24 v d p) :
    ∃ (s : StL) (A : Option Addr) (c : Nat), v = encS s A c ∧ s.load.length ≤ c ∧ RdW W W.heap.size A s.load ∧ SzM s := by
  obtain ⟨v0, v1, v2, v3, v4, v5, y0, y1, y2, y3, y4, y5, n, rfl, rfl, t0, t1, t2, t3, t4, t5⟩ := open_agg6 Tryz.underlying24 (by kernel_rfl) (by kernel_rfl) hv h
  obtain ⟨s0, e0, _, z0⟩ := DataW.trod_int Tryz.underlying5 t0
  obtain ⟨s1, e1, _, z1⟩ := DataW.trod_string Tryz.underlying9 t1
  obtain ⟨s2, e2, _, z2⟩ := DataW.trod_string Tryz.underlying9 t2
  obtain ⟨s3, e3, _, z3⟩ := DataW.trod_string Tryz.underlying9 t3
  obtain ⟨s4, e4, _, z4⟩ := DataW.trod_string Tryz.underlying9 t4
  obtain ⟨A, l, c, e5, q1, q2, q3⟩ := open_trees t5
  simp only [List.cons.injEq, and_true] at e0 e1 e2 e3 e4 e5
  subst e0 e1 e2 e3 e4 e5
  exact ⟨⟨s0, s1, s2, s3, s4, l⟩, A, c, rfl, q1, q2, wf_u8 z0, z1, z2, z3, z4, q3⟩
end
end Go.Proofs.YtnfokaecobddkaaGreatDoor
end
section
namespace Go.Proofs.YtnfokaecobddkaaGreatDoor.stanzaFailsDone
open Go.ChangeShapes Go.WideShapes Go.ChangeAt Go.RowKit Go.Lib
open Go.ChangeMaps (open_string shut_string)
set_option linter.unusedVariables false
noncomputable def laidWorld (os : Os) : World :=
  let w0 := World.doorLaid Tryz.prog 79 os
  { w0 with heap := w0.heap.modify 2 fun
    | .cells _ t frozen => .cells (Lib.firstTab.map fun z => Value.int .u8 z).toArray t frozen
    | o => o }
theorem laid_met (os : Os) (args : Array Value) : laidMetH Tryz.prog Rows.stanzaFailsRow.laid ((laidWorld os).forCall (fun _ _ => 0) ⟨#[], args, []⟩).memory :=
  laidMetH_of_parts3 (fuel := 8) (laidMet_of_run' 8 (by kernel_rfl) (by kernel_rfl)) (by kernel_rfl) (by kernel_rfl)
theorem witness_row (os : Os) {H : Type} (enc : TypeId × Value → H) :
    (OpenSpec.ofChange Rows.stanzaFailsSpec).preRow enc Tryz.prog Tryz.f3 Rows.stanzaFailsRow.domain false Rows.stanzaFailsRow.laid ((laidWorld os).forCall (fun _ _ => 0) ⟨#[], #[.agg #[.int .u8 0, .string ⟨#[]⟩, .string ⟨#[]⟩, .string ⟨#[]⟩, .string ⟨#[]⟩, .slice none 0 0], .string ⟨#[]⟩], []⟩).memory #[.agg #[.int .u8 0, .string ⟨#[]⟩, .string ⟨#[]⟩, .string ⟨#[]⟩, .string ⟨#[]⟩, .slice none 0 0], .string ⟨#[]⟩] := by
  have hw : (DataW.whole enc Tryz.prog ((laidWorld os).forCall (fun _ _ => 0) ⟨#[], #[.agg #[.int .u8 0, .string ⟨#[]⟩, .string ⟨#[]⟩, .string ⟨#[]⟩, .string ⟨#[]⟩, .slice none 0 0], .string ⟨#[]⟩], []⟩).memory Tryz.f3.params.toList (OpenSpec.ofChange Rows.stanzaFailsSpec).vars false #[Value.agg #[.int .u8 0, .string ⟨#[]⟩, .string ⟨#[]⟩, .string ⟨#[]⟩, .string ⟨#[]⟩, .slice none 0 0], Value.string ⟨#[]⟩].toList 8).map (fun x => (x.1, x.2.1)) =
      some ([.agg [.lit (.int .u8 0), .lit (.string []), .lit (.string []), .lit (.string []), .lit (.string []), .nil], .lit (.string [])], []) := by kernel_rfl
  obtain ⟨⟨x1, x2, x3⟩, hx, hx1⟩ := Option.map_eq_some_iff.1 hw
  simp only [Prod.mk.injEq] at hx1
  obtain ⟨rfl, rfl⟩ := hx1
  exact OpenSpec.preRow_of_cond 8 hx (by kernel_rfl) (fun k hk => by cases hk) (by kernel_rfl) (laid_met os _)
theorem size_of {W : World} (h : W.ShapedOpen Tryz.prog) : 9 ≤ W.heap.size := by
  have hs : (((begin Tryz.prog (fun _ _ => 0) default).world.heap[8]?).bind Obj.row?).isSome = true := by kernel_rfl
  obtain ⟨⟨zero, t⟩, h0⟩ := Option.isSome_iff_exists.1 hs
  obtain ⟨cs, hh, _⟩ := h.1 8 zero t (of_decide_eq_true (by kernel_rfl)) h0
  have := (Array.getElem?_eq_some_iff.1 hh).1
  omega
theorem glb_of {W : World} (h : W.ShapedOpen Tryz.prog) : Glb W :=
  Go.Proofs.cell_of_shapedOpen_int (zero := #[.int .i64 0]) (t := 3) h (of_decide_eq_true (by kernel_rfl)) (by kernel_rfl) rfl (by kernel_rfl) (by kernel_rfl) Tryz.underlying3
set_option maxRecDepth 100000 in
set_option maxHeartbeats 2000000 in
theorem lifted (os : Os) (started : os.Started) (H : Type) (enc : TypeId × Value → H) (F : Stop.Interp) :
    ReturnsInHanded {} Tryz.checked os 3 .any ((OpenSpec.ofChange Rows.stanzaFailsSpec).preRow enc Tryz.prog Tryz.f3 Rows.stanzaFailsRow.domain false Rows.stanzaFailsRow.laid) (((OpenSpec.ofChange Rows.stanzaFailsSpec).at F).post enc Tryz.prog Tryz.f3 false true false false) := by
  refine returnsInHanded_of_row (C := Tryz.checked) (s := OpenSpec.ofChange Rows.stanzaFailsSpec) own started (by kernel_rfl) Tryz.func3
    (witness_row_atRef (enc := enc) (C := Tryz.checked) false (laidWorld os) #[.agg #[.int .u8 0, .string ⟨#[]⟩, .string ⟨#[]⟩, .string ⟨#[]⟩, .string ⟨#[]⟩, .slice none 0 0], .string ⟨#[]⟩] rfl (by kernel_rfl) (by kernel_rfl) (by kernel_rfl) (witness_row os enc)) ?_
  intro W base args ds gs before hval0 hW _ _ _ _ hsh _
  have hval : ∀ (j : Nat) t v, Tryz.f3.params[j]? = some t → args[j]? = some v → Value.okWide Tryz.prog W .any base t v := hval0
  have hW' := hW
  obtain ⟨p, q, hA0, hV, rfl, hfz, hnd⟩ := hW
  have hA : DataW.TrodAll enc Tryz.prog W 0 (fun _ => true) true Tryz.f3.params.toList args.toList ds p := hA0
  rw [Tryz.params3] at hA hval
  obtain ⟨v0, vs0, d0, ds0, p0, q0, hargs, rfl, rfl, h0, r0⟩ := trodAll_cons hA
  obtain ⟨v1, vs1, d1, ds1, p1, q1, rfl, rfl, rfl, h1, r1⟩ := trodAll_cons r0
  obtain ⟨rfl, rfl, rfl⟩ := trodAll_nil r1
  obtain rfl : args = #[v0, v1] := by cases args; simp_all
  obtain ⟨rfl, rfl⟩ := trodVars_none hV
  have k0 := h0
  have lt0 : ∀ x ∈ p0, x.block < W.heap.size := by obtain ⟨m, hm⟩ := k0; exact DataW.trod_lt m _ _ _ hm
  obtain ⟨s, A, c, rfl, hc, hr, hz⟩ := open_stanza (hval 0 24 v0 rfl rfl) h0
  obtain ⟨wd, rfl, rfl, rfl, hwd⟩ := open_string Tryz.underlying9 (hval 1 9 v1 rfl rfl) h1
  clear hA0 hval0
  refine (stanzafails_walk s A c wd W hz hr (glb_of hsh) (size_of hsh)).mono fun e W' ⟨he, bel⟩ => ?_
  subst he
  exact ⟨_, rfl, _, _, _, [], _, [], hW', trodAll_mk1 (shut_bool Tryz.underlying4 _), (trodAll_cons_mk (Below.trod laidOut (by kernel_rfl) (of_decide_eq_true (by kernel_rfl)) k0 bel lt0) (trodAll_cons_mk (shut_string Tryz.underlying9 hwd) trodAll_mk0)), rfl, bel.frame _, fun h => by cases h⟩
end Go.Proofs.YtnfokaecobddkaaGreatDoor.stanzaFailsDone
end
section
namespace Go.Proofs.YtnfokaecobddkaaGreatDoor.stanzaFailsDone
open Go.ChangeShapes Go.WideShapes Go.ChangeAt Go.RowKit Go.Lib
set_option linter.unusedVariables false
theorem closed : joinedFacts Tryz.prog 3 Tryz.f3 (OpenSpec.ofChange Rows.stanzaFailsSpec).bare Rows.stanzaFailsRow = true := by
  delta joinedFacts
  rewrite [may_enter, lifts_final, make_cut, laidOut, maps_rowed, stops_heard, stops_none, stopKnobs_none]
  kernel_rfl
theorem inst : Tryz.f3.isInstance Tryz.prog Rows.stanzaFailsRow.origin Rows.stanzaFailsRow.targs := of_decide_eq_true (by kernel_rfl)
theorem wrap : Tryz.f3.isWrapper Tryz.prog Rows.stanzaFailsRow.wrapper Rows.stanzaFailsRow.mainSum := by unfold Func.isWrapper; first | (rw [if_pos (by decide +kernel)]; kernel_rfl) | (rw [if_neg (by decide +kernel)]; exact ⟨rfl, rfl⟩)
set_option maxRecDepth 100000 in
theorem over : Rows.stanzaFailsRow.holds Tryz.pinned (OpenSpec.ofChange Rows.stanzaFailsSpec) :=
  OpenClaim.holds_of_cond 3 Tryz.f3 rfl rfl rfl rfl rfl rfl rfl ⟨rfl, rfl, rfl, rfl, rfl⟩ rfl rfl rfl rfl rfl (by kernel_rfl) Tryz.func3 closed inst wrap
    (fun os started H enc _ F0 => by rw [OpenClaim.pre_eq_preRow]; exact lifted os started H enc F0)
theorem proved : Rows.StanzaFailsCardSaid :=
  Claim7.holds_tied_plain_at .later [] [.data, .data, .data, .data, .handle, .sentinel, .sentinel, .pinned] true (true, "abfa91dde2a6f935aa99e589864e0708bd7b244e11d42d0d05ae914af1c71258") true
    over (fun _ h => by cases h) (by kernel_rfl) (fun _ h => by cases h) stanzaFails_row_tie rfl ⟨rfl, rfl⟩ (by kernel_rfl) rfl
    (fun f fn hf hfn => by
      obtain rfl : f = 3 := Option.some.inj ((show Tryz.prog.funcNamed "tidewaiter/tidewaiterlaw22.StanzaFails" = some 3 by kernel_rfl).symm.trans hf) |>.symm
      obtain rfl : fn = Tryz.f3 := (Option.some.inj (Tryz.func3.symm.trans hfn)).symm
      exact ⟨by kernel_rfl, fun j t ht => by
        rw [Tryz.params3] at ht
        have h3 : t = 24 ∨ t = 9 := by
          rcases j with _ | _ | j
          · exact .inl (by simpa using ht.symm)
          · exact .inr (by simpa using ht.symm)
          · simp at ht
        rcases h3 with rfl | rfl
        · exact (show Tryz.prog.wantsStandIn 24 = false by kernel_rfl)
        · exact (show Tryz.prog.wantsStandIn 9 = false by kernel_rfl)⟩)
    (by kernel_rfl)
#print axioms proved
end Go.Proofs.YtnfokaecobddkaaGreatDoor.stanzaFailsDone
end
