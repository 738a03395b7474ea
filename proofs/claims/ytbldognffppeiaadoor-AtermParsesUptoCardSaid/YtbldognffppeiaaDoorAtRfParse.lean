/- stillroomref08.Parse, walked. -/
import Derived.Test.YtbldognffppeiaaDoorAtRfL
namespace Go.Proofs.YtbldognffppeiaaDoor
open Go.RowKit Quo
set_option linter.unusedSimpArgs false
set_option linter.unusedVariables false
set_option maxHeartbeats 40000000 in
set_option maxRecDepth 1000000 in
theorem rfParse_any (s : ByteArray) (w : World) : Calls Tryd.prog 17 #[.string s] w fun e w' => ∃ a, e = .returned (.tuple #[.agg (drvCells (parseV s) a), .int .i64 (parseE s)]) ∧ DrvAt w' (parseV s) a ∧ Below w.heap.size w w' := by
  obtain ⟨b0, hb0⟩ : ∃ b0, Hid (w.heap.size = b0) := ⟨_, rfl⟩
  by_cases hbig : 1048576 < s.size
  · have d1 : (1048576 : Int) < (s.size : Int) := by omega
    have hK0 : Hid ((w.alloc (.cells #[.slice none 0 0, .slice none 0 0, .slice none 0 0, .string ⟨#[]⟩, .string ⟨#[]⟩, .slice none 0 0, .slice none 0 0] 29)).heap[b0]? = some (.cells #[.slice none 0 0, .slice none 0 0, .slice none 0 0, .string ⟨#[]⟩, .string ⟨#[]⟩, .slice none 0 0, .slice none 0 0] 29 (0, 0))) := by rw [← hb0.out]; exact heap_alloc_new w _
    have HBf : Hid (Blk ((w.alloc (.cells #[.slice none 0 0, .slice none 0 0, .slice none 0 0, .string ⟨#[]⟩, .string ⟨#[]⟩, .slice none 0 0, .slice none 0 0] 29)).setRow b0 #[.slice none 0 0, .slice none 0 0, .slice none 0 0, .string ⟨#[]⟩, .string ⟨#[]⟩, .slice none 0 0, .slice none 0 0]) b0 29 #[.slice none 0 0, .slice none 0 0, .slice none 0 0, .string ⟨#[]⟩, .string ⟨#[]⟩, .slice none 0 0, .slice none 0 0]) := Blk.row (show Blk _ b0 29 #[.slice none 0 0, .slice none 0 0, .slice none 0 0, .string ⟨#[]⟩, .string ⟨#[]⟩, .slice none 0 0, .slice none 0 0] from hK0.out) _
    have HBF : Hid (Below w.heap.size w ((w.alloc (.cells #[.slice none 0 0, .slice none 0 0, .slice none 0 0, .string ⟨#[]⟩, .string ⟨#[]⟩, .slice none 0 0, .slice none 0 0] 29)).setRow b0 #[.slice none 0 0, .slice none 0 0, .slice none 0 0, .string ⟨#[]⟩, .string ⟨#[]⟩, .slice none 0 0, .slice none 0 0])) := below_setRow ((Below.refl _ w).alloc (Nat.le_refl _) _) (by rw [hb0.out]; exact Nat.le_refl _) _
    go_enter Tryd.func17, Tryd.ntmps17
    go_upto_region 1 with (fail)
    rw [hb0.out]
    go_wp2_with (first
      | refine wpList_store_row rfl 29 (.tmp 2) (.tmp 13) rfl b0 #[.slice none 0 0, .slice none 0 0, .slice none 0 0, .string ⟨#[]⟩, .string ⟨#[]⟩, .slice none 0 0, .slice none 0 0] rfl rfl 29 _ hK0.out (by kernel_rfl) rfl (by simp [Value.oneCell']) ?_
      | fail)
    first
      | refine bodyPost_ret (results_row_tmp rfl _ _ b0 29 #[.slice none 0 0, .slice none 0 0, .slice none 0 0, .string ⟨#[]⟩, .string ⟨#[]⟩, .slice none 0 0, .slice none 0 0] (0, 0) _ rfl HBf.out Tryd.underlying29 rfl (by kernel_rfl)) rfl ?_
      | refine bodyPost_end (results_row_tmp rfl _ _ b0 29 #[.slice none 0 0, .slice none 0 0, .slice none 0 0, .string ⟨#[]⟩, .string ⟨#[]⟩, .slice none 0 0, .slice none 0 0] (0, 0) _ rfl HBf.out Tryd.underlying29 rfl (by kernel_rfl)) rfl ?_
    exact parse_ret (d := emptyD) (a := nilA) rfl (parsed_big hbig) (empty_at _) HBF.out
  · have d1 : ¬ (1048576 : Int) < (s.size : Int) := by omega
    have hsmall := Lib.hid hbig
    have hs : s.size ≤ 1048576 := by omega
    clear hbig
    obtain ⟨g, hgg⟩ : ∃ g, Hid (b0 + 1 = g) := ⟨_, rfl⟩
    obtain ⟨b5, hb5⟩ : ∃ b5, Hid (b0 + 2 = b5) := ⟨_, rfl⟩
    have HC : Hid (PC w g b0 b5) := ⟨hb0.out, hgg.out.symm, hb5.out.symm⟩
    have hgb : Hid (g < (b5 + 1)) := by have h1 := hgg.out; have h2 := hb5.out; rw [Hid]; omega
    have HL0 : Hid (Below w.heap.size w ((w.alloc (.cells #[.slice none 0 0, .slice none 0 0, .slice none 0 0, .string ⟨#[]⟩, .string ⟨#[]⟩, .slice none 0 0, .slice none 0 0] 29)).alloc (.cells #[.string s, .int .i64 0, .bool false] 92))) := ((Below.refl _ w).alloc (Nat.le_refl _) _).alloc (by rw [World.size_alloc]; omega) _
    have HB00 : Hid (Blk ((w.alloc (.cells #[.slice none 0 0, .slice none 0 0, .slice none 0 0, .string ⟨#[]⟩, .string ⟨#[]⟩, .slice none 0 0, .slice none 0 0] 29)).alloc (.cells #[.string s, .int .i64 0, .bool false] 92)) b0 29 #[.slice none 0 0, .slice none 0 0, .slice none 0 0, .string ⟨#[]⟩, .string ⟨#[]⟩, .slice none 0 0, .slice none 0 0]) := by rw [← hb0.out]; exact (Blk.new w 29 _).alloc _
    have HR0 : Hid (RfSt ((w.alloc (.cells #[.slice none 0 0, .slice none 0 0, .slice none 0 0, .string ⟨#[]⟩, .string ⟨#[]⟩, .slice none 0 0, .slice none 0 0] 29)).alloc (.cells #[.string s, .int .i64 0, .bool false] 92)) g s (some s.data.toList)) := by
      refine ⟨0, Nat.zero_le _, rfl, ?_⟩
      rw [← hgg.out, ← hb0.out]
      exact blk_alloc2 w _ 92 _
    have hsz0 : Hid (((w.alloc (.cells #[.slice none 0 0, .slice none 0 0, .slice none 0 0, .string ⟨#[]⟩, .string ⟨#[]⟩, .slice none 0 0, .slice none 0 0] 29)).alloc (.cells #[.string s, .int .i64 0, .bool false] 92)).heap.size = b5) := by rw [Hid, World.size_alloc, World.size_alloc, ← hb5.out, hb0.out]
    go_enter Tryd.func17, Tryd.ntmps17
    go_upto_region 4 with (fail)
    rw [hb0.out, hgg.out]
    generalize (w.alloc (.cells #[.slice none 0 0, .slice none 0 0, .slice none 0 0, .string ⟨#[]⟩, .string ⟨#[]⟩, .slice none 0 0, .slice none 0 0] 29)).alloc (.cells #[.string s, .int .i64 0, .bool false] 92) = W0 at *
    go_upto_region 5 with (first
      | refine wpList_store_row rfl 29 (.tmp 5) (.tmp 17) rfl W0.heap.size #[.slice none 0 0, .slice none 0 0, .slice none 0 0, .string ⟨#[]⟩, .string ⟨#[]⟩, .slice none 0 0, .slice none 0 0] rfl rfl 29 _ (heap_alloc_new W0 _) (by kernel_rfl) rfl (by simp [Value.oneCell']) ?_
      | fail)
    rw [hsz0.out]
    have HBW : Hid (Below b5 W0 ((W0.alloc (.cells #[.slice none 0 0, .slice none 0 0, .slice none 0 0, .string ⟨#[]⟩, .string ⟨#[]⟩, .slice none 0 0, .slice none 0 0] 29)).setRow b5 #[.slice none 0 0, .slice none 0 0, .slice none 0 0, .string ⟨#[]⟩, .string ⟨#[]⟩, .slice none 0 0, .slice none 0 0])) := below_setRow ((Below.refl b5 W0).alloc (by rw [hsz0.out]; exact Nat.le_refl _) _) (Nat.le_refl _) _
    have HP : Hid (PS w g b0 b5 s (fun _ => True) #[.slice none 0 0, .slice none 0 0, .slice none 0 0, .string ⟨#[]⟩, .string ⟨#[]⟩, .slice none 0 0, .slice none 0 0] (some s.data.toList) ((W0.alloc (.cells #[.slice none 0 0, .slice none 0 0, .slice none 0 0, .string ⟨#[]⟩, .string ⟨#[]⟩, .slice none 0 0, .slice none 0 0] 29)).setRow b5 #[.slice none 0 0, .slice none 0 0, .slice none 0 0, .string ⟨#[]⟩, .string ⟨#[]⟩, .slice none 0 0, .slice none 0 0])) := by
      refine ⟨HR0.out.kept (by have h1 := hgg.out; have h2 := hb5.out; omega) HBW.out, HB00.out.below HBW.out (by have h2 := hb5.out; omega), ?_, HL0.out.trans (HBW.out.mono (by have h2 := hb5.out; have h1 := hb0.out; omega)), trivial⟩
      have h1 := Blk.new W0 29 #[.slice none 0 0, .slice none 0 0, .slice none 0 0, .string ⟨#[]⟩, .string ⟨#[]⟩, .slice none 0 0, .slice none 0 0]
      rw [hsz0.out] at h1
      exact h1.row _
    clear HBW HR0 HB00 HL0 hsz0
    generalize (W0.alloc (.cells #[.slice none 0 0, .slice none 0 0, .slice none 0 0, .string ⟨#[]⟩, .string ⟨#[]⟩, .slice none 0 0, .slice none 0 0] 29)).setRow b5 #[.slice none 0 0, .slice none 0 0, .slice none 0 0, .string ⟨#[]⟩, .string ⟨#[]⟩, .slice none 0 0, .slice none 0 0] = X0 at *
    obtain ⟨st, hst⟩ : ∃ st, Hid (some s.data.toList = st) := ⟨_, rfl⟩
    have hlim : Hid (Lim st) := by rw [← hst.out]; exact fun l e => by injection e with e; rw [← e]; simp; omega
    rw [hst.out] at HP
    obtain ⟨s0, e0⟩ : ∃ s0, Hid (st.bind (eat [68, 101, 114, 105, 118, 101, 40]) = s0) := ⟨_, rfl⟩
    obtain ⟨P0, f0⟩ : ∃ P0, Hid (s0.bind (eachR rdOut) = P0) := ⟨_, rfl⟩
    obtain ⟨t0, k0⟩ : ∃ t0, Hid (P0.map (·.2) = t0) := ⟨_, rfl⟩
    have l0 : Hid (Lim s0) := by rw [← e0.out]; exact hlim.out.eat [68, 101, 114, 105, 118, 101, 40]
    have m0 : Hid (Lim t0) := by rw [← k0.out, ← f0.out]; exact l0.out.rd (eachR_reads rdOut_reads outD_head)
    obtain ⟨s1, e1⟩ : ∃ s1, Hid (t0.bind (eat [44]) = s1) := ⟨_, rfl⟩
    obtain ⟨P1, f1⟩ : ∃ P1, Hid (s1.bind (eachR rdIn) = P1) := ⟨_, rfl⟩
    obtain ⟨t1, k1⟩ : ∃ t1, Hid (P1.map (·.2) = t1) := ⟨_, rfl⟩
    have l1 : Hid (Lim s1) := by rw [← e1.out]; exact m0.out.eat [44]
    have m1 : Hid (Lim t1) := by rw [← k1.out, ← f1.out]; exact l1.out.rd (eachR_reads rdIn_reads inD_head)
    obtain ⟨s2, e2⟩ : ∃ s2, Hid (t1.bind (eat [44]) = s2) := ⟨_, rfl⟩
    obtain ⟨P2, f2⟩ : ∃ P2, Hid (s2.bind (eachR rdS) = P2) := ⟨_, rfl⟩
    obtain ⟨t2, k2⟩ : ∃ t2, Hid (P2.map (·.2) = t2) := ⟨_, rfl⟩
    have l2 : Hid (Lim s2) := by rw [← e2.out]; exact m1.out.eat [44]
    have m2 : Hid (Lim t2) := by rw [← k2.out, ← f2.out]; exact l2.out.rd eachS_reads
    obtain ⟨s3, e3⟩ : ∃ s3, Hid (t2.bind (eat [44]) = s3) := ⟨_, rfl⟩
    obtain ⟨P3, f3⟩ : ∃ P3, Hid (s3.bind rdS = P3) := ⟨_, rfl⟩
    obtain ⟨t3, k3⟩ : ∃ t3, Hid (P3.map (·.2) = t3) := ⟨_, rfl⟩
    have l3 : Hid (Lim s3) := by rw [← e3.out]; exact m2.out.eat [44]
    have m3 : Hid (Lim t3) := by rw [← k3.out, ← f3.out]; exact l3.out.rd rdS_reads
    obtain ⟨s4, e4⟩ : ∃ s4, Hid (t3.bind (eat [44]) = s4) := ⟨_, rfl⟩
    obtain ⟨P4, f4⟩ : ∃ P4, Hid (s4.bind rdS = P4) := ⟨_, rfl⟩
    obtain ⟨t4, k4⟩ : ∃ t4, Hid (P4.map (·.2) = t4) := ⟨_, rfl⟩
    have l4 : Hid (Lim s4) := by rw [← e4.out]; exact m3.out.eat [44]
    have m4 : Hid (Lim t4) := by rw [← k4.out, ← f4.out]; exact l4.out.rd rdS_reads
    obtain ⟨s5, e5⟩ : ∃ s5, Hid (t4.bind (eat [44]) = s5) := ⟨_, rfl⟩
    obtain ⟨P5, f5⟩ : ∃ P5, Hid (s5.bind (eachR rdS) = P5) := ⟨_, rfl⟩
    obtain ⟨t5, k5⟩ : ∃ t5, Hid (P5.map (·.2) = t5) := ⟨_, rfl⟩
    have l5 : Hid (Lim s5) := by rw [← e5.out]; exact m4.out.eat [44]
    have m5 : Hid (Lim t5) := by rw [← k5.out, ← f5.out]; exact l5.out.rd eachS_reads
    obtain ⟨s6, e6⟩ : ∃ s6, Hid (t5.bind (eat [44]) = s6) := ⟨_, rfl⟩
    obtain ⟨P6, f6⟩ : ∃ P6, Hid (s6.bind (eachR rdEnv) = P6) := ⟨_, rfl⟩
    obtain ⟨t6, k6⟩ : ∃ t6, Hid (P6.map (·.2) = t6) := ⟨_, rfl⟩
    have l6 : Hid (Lim s6) := by rw [← e6.out]; exact m5.out.eat [44]
    have m6 : Hid (Lim t6) := by rw [← k6.out, ← f6.out]; exact l6.out.rd (eachR_reads rdEnv_reads envD_head)
    obtain ⟨s7, e7⟩ : ∃ s7, Hid (t6.bind (eat [41]) = s7) := ⟨_, rfl⟩
    have HDC := Lib.hid (rdD_chain st e0.out f0.out k0.out e1.out f1.out k1.out e2.out f2.out k2.out e3.out f3.out k3.out e4.out f4.out k4.out e5.out f5.out k5.out e6.out f6.out k6.out e7.out)
    obtain ⟨z0, ez0⟩ : ∃ z, Hid (s0.bind (eat [91]) = z) := ⟨_, rfl⟩
    have hz0 : Hid (st.bind (eat [68, 101, 114, 105, 118, 101, 40, 91]) = z0) := by rw [Hid, ← ez0.out, ← e0.out]; exact eat_bind st [68, 101, 114, 105, 118, 101, 40] [91]
    obtain ⟨z1, ez1⟩ : ∃ z, Hid (s1.bind (eat [91]) = z) := ⟨_, rfl⟩
    have hz1 : Hid (t0.bind (eat [44, 91]) = z1) := by rw [Hid, ← ez1.out, ← e1.out]; exact eat_bind t0 [44] [91]
    obtain ⟨z6, ez6⟩ : ∃ z, Hid (s6.bind (eat [91]) = z) := ⟨_, rfl⟩
    have hz6 : Hid (t5.bind (eat [44, 91]) = z6) := by rw [Hid, ← ez6.out, ← e6.out]; exact eat_bind t5 [44] [91]
    obtain ⟨F0, hFF0⟩ : ∃ F : World → Prop, Hid (F = fun _ => True) := ⟨_, rfl⟩
    have hS : Stable (b5 + 1) F0 := by rw [hFF0.out]; exact stable_true _
    have hGr : Grown 49 F0 := by rw [hFF0.out]; exact grown_true _
    rw [← hFF0.out] at HP
    have HCt := Lib.hid (rfTake_any [68, 101, 114, 105, 118, 101, 40, 91] g s st hs (by decide) X0 HP.out.rd)
    rw [hz0.out] at HCt
    go_upto_region 6 with (first
      | (go_at_call 47; refine HCt.out.mono ?_; rintro e U0 ⟨rfl, hr, hk⟩; have HP' := Lib.hid (HP.out.kept HC.out hS hk hr); clear hr hk)
      | fail)
    clear HCt HP
    have HP := HP'
    clear HP'
    have HLI : Hid (LI rdOut P0 [] z0 0) := LI.start l0.out ez0.out f0.out
    have HO : Hid (U0.ownsRow (b5 + 1) 49 3 (.slice none 0 0) 0 (outsCells [])) := World.ownsRow_nil _ _ _ _
    obtain ⟨i49, hi0, hz0, hz1, hz2⟩ := info_parts info49'
    have iz0 := Lib.hid hz0
    have is0 := Lib.hid hz1
    have iy0 := Lib.hid hz2
    have ix0 := Lib.hid hi0
    clear hi0 hz0 hz1 hz2
    go_loopw [] (fun wr => ∃ (acc : List (ByteArray × ByteArray × ByteArray)) (sr : Option (List UInt8)) (A0 : Option Addr) (n0 c0 : Nat), Hid (PS w g b0 b5 s F0 #[.slice A0 n0 c0, .slice none 0 0, .slice none 0 0, .string ⟨#[]⟩, .string ⟨#[]⟩, .slice none 0 0, .slice none 0 0] sr wr) ∧ Hid (wr.ownsRow (b5 + 1) 49 3 (.slice A0 n0 c0) n0 (outsCells acc)) ∧ Hid (LI rdOut P0 acc sr n0)) (fun wr => mRf wr g)
    case atStart => exact ⟨[], z0, none, 0, 0, HP, HO, HLI⟩
    case round =>
      clear HP HO HLI
      obtain ⟨acc, sr, A0, n0, c0, HP, HO, HLI⟩ := hrel
      have hn1 : n0 ≤ 1048577 := by have h1 := HLI.out.small; have h2 := HLI.out.len; omega
      have HM := Lib.hid (rfMore_any n0 hn1 g s sr hs wr HP.out.rd)
      have hme : Hid (mRf wr g = lenR sr) := HP.out.rd.measure
      have x0 : wr.cell? ⟨b5, 0, none⟩ = some (.slice A0 n0 c0) := HP.out.r5.cell 0
      cases hb : moreB n0 sr with
      | true =>
        obtain ⟨l, l2, rfl, hp, hsep, hms⟩ := more_goes HLI.out.said HLI.out.len hb
        rw [hb, hms] at HM
        have HSEP := Lib.hid hsep
        have HPF := Lib.hid hp
        clear hb hms hsep hp
        go_upto_region 7 with (first
          | (go_at_call 48; refine HM.out.mono ?_; rintro e w1 ⟨rfl, hr, hk⟩; have HP1 := Lib.hid (HP.out.kept HC.out hS hk hr); have HO1 := Lib.hid (own_keptK HO.out hgb.out hk); clear hr hk)
          | fail)
        clear HM HP HO x0
        obtain ⟨bo, hbo⟩ : ∃ bo, Hid (w1.heap.size = bo) := ⟨_, rfl⟩
        have hgo : Hid (g < bo) := by rw [← hbo.out]; exact HP1.out.rd.lt
        have hbbo : Hid ((b5 + 1) ≤ bo) := by have h1 := HP1.out.r5.lt; have h2 := hbo.out; rw [Hid]; omega
        go_upto_region 8 with (first
          | refine wpList_store_row rfl 49 (.tmp 6) (.tmp 25) rfl w1.heap.size #[.string ⟨#[]⟩, .string ⟨#[]⟩, .string ⟨#[]⟩] rfl rfl 49 _ (heap_alloc_new w1 _) (by kernel_rfl) rfl (by simp [Value.oneCell']) ?_
          | fail)
        rw [hbo.out]
        have HBW : Hid (Below bo w1 ((w1.alloc (.cells #[.string ⟨#[]⟩, .string ⟨#[]⟩, .string ⟨#[]⟩] 49)).setRow bo #[.string ⟨#[]⟩, .string ⟨#[]⟩, .string ⟨#[]⟩])) := below_setRow ((Below.refl bo w1).alloc (by rw [← hbo.out]; exact Nat.le_refl _) _) (Nat.le_refl _) _
        have HE : Hid (Blk ((w1.alloc (.cells #[.string ⟨#[]⟩, .string ⟨#[]⟩, .string ⟨#[]⟩] 49)).setRow bo #[.string ⟨#[]⟩, .string ⟨#[]⟩, .string ⟨#[]⟩]) bo 49 #[.string ⟨#[]⟩, .string ⟨#[]⟩, .string ⟨#[]⟩]) := by
          have h1 := Blk.new w1 49 #[.string ⟨#[]⟩, .string ⟨#[]⟩, .string ⟨#[]⟩]
          rw [hbo.out] at h1
          exact h1.row _
        have HR : Hid (RfSt ((w1.alloc (.cells #[.string ⟨#[]⟩, .string ⟨#[]⟩, .string ⟨#[]⟩] 49)).setRow bo #[.string ⟨#[]⟩, .string ⟨#[]⟩, .string ⟨#[]⟩]) g s (some l2)) := HP1.out.rd.kept hgo.out HBW.out
        have HK : Hid (Kept g w1 ((w1.alloc (.cells #[.string ⟨#[]⟩, .string ⟨#[]⟩, .string ⟨#[]⟩] 49)).setRow bo #[.string ⟨#[]⟩, .string ⟨#[]⟩, .string ⟨#[]⟩])) := (Kept.refl g w1).belowB HBW.out (by rw [hbo.out]; exact Nat.le_refl _)
        clear HBW
        generalize (w1.alloc (.cells #[.string ⟨#[]⟩, .string ⟨#[]⟩, .string ⟨#[]⟩] 49)).setRow bo #[.string ⟨#[]⟩, .string ⟨#[]⟩, .string ⟨#[]⟩] = Y0 at *
        have hne : Hid (bo ≠ g) := by have := hgo.out; rw [Hid]; omega
        obtain ⟨a0, ea0⟩ : ∃ a, Hid ((some l2).bind (eat [40]) = a) := ⟨_, rfl⟩
        obtain ⟨Q0, fa0⟩ : ∃ q, Hid (a0.bind rdS = q) := ⟨_, rfl⟩
        obtain ⟨u0, ga0⟩ : ∃ u, Hid (Q0.map (·.2) = u) := ⟨_, rfl⟩
        obtain ⟨a1, ea1⟩ : ∃ a, Hid (u0.bind (eat [44]) = a) := ⟨_, rfl⟩
        obtain ⟨Q1, fa1⟩ : ∃ q, Hid (a1.bind rdS = q) := ⟨_, rfl⟩
        obtain ⟨u1, ga1⟩ : ∃ u, Hid (Q1.map (·.2) = u) := ⟨_, rfl⟩
        obtain ⟨a2, ea2⟩ : ∃ a, Hid (u1.bind (eat [44]) = a) := ⟨_, rfl⟩
        obtain ⟨Q2, fa2⟩ : ∃ q, Hid (a2.bind rdS = q) := ⟨_, rfl⟩
        obtain ⟨u2, ga2⟩ : ∃ u, Hid (Q2.map (·.2) = u) := ⟨_, rfl⟩
        obtain ⟨a3, ea3⟩ : ∃ a, Hid (u2.bind (eat [41]) = a) := ⟨_, rfl⟩
        have HCH := Lib.hid (rdOut_chain (some l2) ea0.out fa0.out ga0.out ea1.out fa1.out ga1.out ea2.out fa2.out ga2.out ea3.out)
        have HCt := Lib.hid (rfTake_any [40] g s (some l2) hs (by decide) Y0 HR.out)
        rw [ea0.out] at HCt
        go_upto_region 9 with (first
          | (go_at_call 47; refine HCt.out.mono ?_; rintro e y0 ⟨rfl, hr, hk⟩; have HR' := Lib.hid hr; have HE' := Lib.hid (HE.out.keptK hk hne.out); have HK' := Lib.hid (HK.out.trans hk); clear hr hk)
          | fail)
        clear HCt HR HE HK
        have HD := Lib.hid (rfQuoted_any g s a0 hs y0 HR'.out)
        rw [fa0.out, ga0.out] at HD
        go_upto_region 10 with (first
          | (go_at_call 49; refine HD.out.mono ?_; rintro e v0 ⟨q0, rfl, hr, hq, hk⟩; have HR := Lib.hid hr; have HQ0 := Lib.hid hq; have HE := Lib.hid (HE'.out.keptK hk hne.out); have HK := Lib.hid (HK'.out.trans hk); have z1 : v0.cell? ⟨bo, 0, none⟩ = some (.string ⟨#[]⟩) := HE.out.cell 0; have z2 : v0.frozen? ⟨bo, 0, none⟩ = false := HE.out.frozen 0; clear hr hk hq)
          | fail)
        clear HD HR' HE' HK' z1 z2
        have HE2 : Hid (Blk (v0.setCell ⟨bo, 0, none⟩ (.string q0)) bo 49 #[.string q0, .string ⟨#[]⟩, .string ⟨#[]⟩]) := HE.out.set_ 0 _
        have HR2 : Hid (RfSt (v0.setCell ⟨bo, 0, none⟩ (.string q0)) g s u0) := HR.out.far (show g ≠ bo from fun e => hne.out e.symm) _
        have HK2 : Hid (Kept g w1 (v0.setCell ⟨bo, 0, none⟩ (.string q0))) := HK.out.belowB ((Below.refl bo v0).setCell (p := ⟨bo, 0, none⟩) (Nat.le_refl _) _) (by rw [hbo.out]; exact Nat.le_refl _)
        clear HE HR HK
        generalize v0.setCell ⟨bo, 0, none⟩ (.string q0) = Y1 at *
        have HE := HE2
        have HR := HR2
        have HK := HK2
        clear HE2 HR2 HK2
        have HCt := Lib.hid (rfTake_any [44] g s u0 hs (by decide) Y1 HR.out)
        rw [ea1.out] at HCt
        go_upto_region 11 with (first
          | (go_at_call 47; refine HCt.out.mono ?_; rintro e y1 ⟨rfl, hr, hk⟩; have HR' := Lib.hid hr; have HE' := Lib.hid (HE.out.keptK hk hne.out); have HK' := Lib.hid (HK.out.trans hk); clear hr hk)
          | fail)
        clear HCt HR HE HK
        have HD := Lib.hid (rfQuoted_any g s a1 hs y1 HR'.out)
        rw [fa1.out, ga1.out] at HD
        go_upto_region 12 with (first
          | (go_at_call 49; refine HD.out.mono ?_; rintro e v1 ⟨q1, rfl, hr, hq, hk⟩; have HR := Lib.hid hr; have HQ1 := Lib.hid hq; have HE := Lib.hid (HE'.out.keptK hk hne.out); have HK := Lib.hid (HK'.out.trans hk); have z1 : v1.cell? ⟨bo, 1, none⟩ = some (.string ⟨#[]⟩) := HE.out.cell 1; have z2 : v1.frozen? ⟨bo, 1, none⟩ = false := HE.out.frozen 1; clear hr hk hq)
          | fail)
        clear HD HR' HE' HK' z1 z2
        have HE2 : Hid (Blk (v1.setCell ⟨bo, 1, none⟩ (.string q1)) bo 49 #[.string q0, .string q1, .string ⟨#[]⟩]) := HE.out.set_ 1 _
        have HR2 : Hid (RfSt (v1.setCell ⟨bo, 1, none⟩ (.string q1)) g s u1) := HR.out.far (show g ≠ bo from fun e => hne.out e.symm) _
        have HK2 : Hid (Kept g w1 (v1.setCell ⟨bo, 1, none⟩ (.string q1))) := HK.out.belowB ((Below.refl bo v1).setCell (p := ⟨bo, 1, none⟩) (Nat.le_refl _) _) (by rw [hbo.out]; exact Nat.le_refl _)
        clear HE HR HK
        generalize v1.setCell ⟨bo, 1, none⟩ (.string q1) = Y2 at *
        have HE := HE2
        have HR := HR2
        have HK := HK2
        clear HE2 HR2 HK2
        have HCt := Lib.hid (rfTake_any [44] g s u1 hs (by decide) Y2 HR.out)
        rw [ea2.out] at HCt
        go_upto_region 13 with (first
          | (go_at_call 47; refine HCt.out.mono ?_; rintro e y2 ⟨rfl, hr, hk⟩; have HR' := Lib.hid hr; have HE' := Lib.hid (HE.out.keptK hk hne.out); have HK' := Lib.hid (HK.out.trans hk); clear hr hk)
          | fail)
        clear HCt HR HE HK
        have HD := Lib.hid (rfQuoted_any g s a2 hs y2 HR'.out)
        rw [fa2.out, ga2.out] at HD
        go_upto_region 14 with (first
          | (go_at_call 49; refine HD.out.mono ?_; rintro e v2 ⟨q2, rfl, hr, hq, hk⟩; have HR := Lib.hid hr; have HQ2 := Lib.hid hq; have HE := Lib.hid (HE'.out.keptK hk hne.out); have HK := Lib.hid (HK'.out.trans hk); have z1 : v2.cell? ⟨bo, 2, none⟩ = some (.string ⟨#[]⟩) := HE.out.cell 2; have z2 : v2.frozen? ⟨bo, 2, none⟩ = false := HE.out.frozen 2; clear hr hk hq)
          | fail)
        clear HD HR' HE' HK' z1 z2
        have HE2 : Hid (Blk (v2.setCell ⟨bo, 2, none⟩ (.string q2)) bo 49 #[.string q0, .string q1, .string q2]) := HE.out.set_ 2 _
        have HR2 : Hid (RfSt (v2.setCell ⟨bo, 2, none⟩ (.string q2)) g s u2) := HR.out.far (show g ≠ bo from fun e => hne.out e.symm) _
        have HK2 : Hid (Kept g w1 (v2.setCell ⟨bo, 2, none⟩ (.string q2))) := HK.out.belowB ((Below.refl bo v2).setCell (p := ⟨bo, 2, none⟩) (Nat.le_refl _) _) (by rw [hbo.out]; exact Nat.le_refl _)
        clear HE HR HK
        generalize v2.setCell ⟨bo, 2, none⟩ (.string q2) = Y3 at *
        have HE := HE2
        have HR := HR2
        have HK := HK2
        clear HE2 HR2 HK2
        have HCt := Lib.hid (rfTake_any [41] g s u2 hs (by decide) Y3 HR.out)
        rw [ea3.out] at HCt
        go_upto_region 15 with (first
          | (go_at_call 47; refine HCt.out.mono ?_; rintro e ye ⟨rfl, hr, hk⟩; have HRe := Lib.hid hr; have HEe := Lib.hid (HE.out.keptK hk hne.out); have HKe := Lib.hid (HK.out.trans hk); clear hr hk)
          | fail)
        clear HCt HR HE HK
        have HPe := Lib.hid (HP1.out.kept HC.out hS HKe.out HRe.out)
        have HPa := Lib.hid (HPe.out.kept HC.out hS ((Kept.refl g ye).alloc (.cells #[.string q0, .string q1, .string q2] 49)) (HPe.out.rd.kept HPe.out.rd.lt ((Below.refl _ _).alloc (Nat.le_refl _) _)))
        have HRow := Lib.hid ((own_keptK HO1.out hgb.out HKe.out).alloc (.cells #[.string q0, .string q1, .string q2] 49))
        have hKo : Hid (ye.heap[bo]? = some (.cells #[.string q0, .string q1, .string q2] 49 (0, 0))) := HEe.out
        have x1 : ye.cell? ⟨b5, 0, none⟩ = some (.slice A0 n0 c0) := HPe.out.r5.cell 0
        have hSz : Hid ((b5 + 1) ≤ (ye.alloc (.cells #[.string q0, .string q1, .string q2] 49)).heap.size) := by have h1 := HPe.out.r5.lt; rw [Hid, World.size_alloc]; omega
        have hn2 : n0 ≤ 1048576 := by have h1 := HLI.out.fit l rfl; have h2 := HLI.out.len; omega
        go_wp2_with (first
          | refine wpList_load_row rfl 49 (.tmp 6) rfl bo rfl 49 #[.string q0, .string q1, .string q2] (0, 0) _ hKo.out Tryd.underlying49 rfl (by kernel_rfl) ?_
          | (at_builtin; refine wpList_append_lies _ rfl (.tmp 44) (.tmp 46) 24 rfl (b5 + 1) 49 i49 _ 3 48 Tryd.underlying24 ix0.out iz0.out is0.out iy0.out rfl (by omega) (.slice A0 n0 c0) n0 (outsCells acc) rfl HRow.out ⟨ye.heap.size, 0, none⟩ 1 1 [.string q0, .string q1, .string q2] rfl rfl (World.news_of_block (cs := #[.string q0, .string q1, .string q2]) (t := 49) (fr := (0, 0)) (heap_alloc_new ye _)) (by simp [Value.oneCell']) (by omega) (by unfold maxLen; omega) (by omega) hSz.out (ye.heap.size + 1) (by simp) ?_; intro gg cap w4 hown4 hgrow hat hltg; have HP4 := Lib.hid (PS.grown HC.out hGr HPa.out HRow.out hgrow); have HO4 := Lib.hid hown4; have x4 : w4.cell? ⟨b5, 0, none⟩ = some (.slice A0 n0 c0) := HP4.out.r5.cell 0; have x5 : w4.frozen? ⟨b5, 0, none⟩ = false := HP4.out.r5.frozen 0; clear hown4 hgrow hat hltg x1)
          | fail)
        have HP5 : Hid (PS w g b0 b5 s F0 #[.slice (some ⟨gg, 0, none⟩) (n0 + 1) cap, .slice none 0 0, .slice none 0 0, .string ⟨#[]⟩, .string ⟨#[]⟩, .slice none 0 0, .slice none 0 0] a3 (w4.setCell ⟨b5, 0, none⟩ (.slice (some ⟨gg, 0, none⟩) (n0 + 1) cap))) := HP4.out.set5 HC.out hS 0 _
        have HO5 : Hid ((w4.setCell ⟨b5, 0, none⟩ (.slice (some ⟨gg, 0, none⟩) (n0 + 1) cap)).ownsRow (b5 + 1) 49 3 (.slice (some ⟨gg, 0, none⟩) (n0 + 1) cap) (n0 + 1) (outsCells (acc ++ [(q0, q1, q2)]))) := by
          rw [Hid, outsCells_snoc]
          exact own_set HO4.out (Nat.lt_succ_self _) _
        cases hrd : rdOut l2 with
        | none =>
          have hae : a3 = none := by
            rw [← HCH.out.1]
            show Option.map _ (rdOut l2) = none
            rw [hrd]
            rfl
          rw [hae] at HP5
          refine ⟨⟨_, none, _, _, _, HP5, HO5, HLI.out.bad HPF.out HSEP.out hrd (q0, q1, q2)⟩, ?_⟩
          rw [hme.out, HP5.out.rd.measure]
          exact Nat.succ_pos _
        | some p =>
          obtain ⟨x, r⟩ := p
          have hae : a3 = some r := by
            rw [← HCH.out.1]
            show Option.map _ (rdOut l2) = some r
            rw [hrd]
            rfl
          rw [hae] at HP5
          obtain ⟨p0, p1, p2, h0, h1, h2, hx⟩ := HCH.out.2 (x, r) hrd
          have hx0 := HQ0.out p0 h0; have hx1 := HQ1.out p1 h1; have hx2 := HQ2.out p2 h2
          have hxe : (q0, q1, q2) = x := by
            show (q0, q1, q2) = (x, r).1
            rw [hx, hx0, hx1, hx2]
          rw [hxe] at HO5
          have hgd := HLI.out.good rdOut_reads outD_head HPF.out HSEP.out hrd
          refine ⟨⟨_, some r, _, _, _, HP5, HO5, hgd.1⟩, ?_⟩
          rw [hme.out, HP5.out.rd.measure]
          exact Nat.succ_lt_succ hgd.2
      | false =>
        have hends := Lib.hid (HLI.out.ends hb)
        rw [hb] at HM
        clear hb
        go_upto_region 16 with (first
          | (go_at_call 48; refine HM.out.mono ?_; rintro e w2 ⟨rfl, hr, hk⟩; have HP2 := Lib.hid (HP.out.kept HC.out hS hk hr); have HO2 := Lib.hid (own_keptK HO.out hgb.out hk); clear hr hk)
          | fail)
        have hms : Hid (moreS n0 sr = t0) := by rw [Hid, ← ends_snd hends.out]; exact k0.out
        rw [hms.out] at HP2
        have hG : Hid ((fun W : World => ∀ p, P0 = some p → n0 = p.1.length ∧ W.ownsRow (b5 + 1) 49 3 (.slice A0 n0 c0) n0 (outsCells p.1)) w2) := fun p e => by
          rw [hends.out] at e
          obtain ⟨l, hl, e⟩ := Option.map_eq_some_iff.1 e
          rw [← e]
          exact ⟨HLI.out.len, HO2.out⟩
        have HP := Lib.hid (HP2.out.withF (G := (fun W : World => ∀ p, P0 = some p → n0 = p.1.length ∧ W.ownsRow (b5 + 1) 49 3 (.slice A0 n0 c0) n0 (outsCells p.1))) hG.out)
        clear HP2 HO2 HLI hends hms x0 hme HM HO iz0 is0 iy0 ix0 hG
        obtain ⟨F1, hFF1⟩ : ∃ F, Hid (F = (fun W => (fun W : World => ∀ p, P0 = some p → n0 = p.1.length ∧ W.ownsRow (b5 + 1) 49 3 (.slice A0 n0 c0) n0 (outsCells p.1)) W ∧ F0 W)) := ⟨_, rfl⟩
        have hS' : Stable (b5 + 1) F1 := by rw [hFF1.out]; exact Stable.and (stable_own (b5 + 1) P0 List.length 49 3 (.slice A0 n0 c0) n0 outsCells) hS
        rw [← hFF1.out] at HP
        clear hS
        have hS := hS'
        clear hS'
        have hGr1 : Grown 61 F1 := by rw [hFF1.out, hFF0.out]; exact Grown.and (grown_own (e' := 49) (by decide) (b5 + 1) P0 List.length 3 (.slice A0 n0 c0) n0 outsCells) (grown_true _)
        clear hGr
        have hGr := hGr1
        clear hGr1
        have HCt := Lib.hid (rfTake_any [44, 91] g s t0 hs (by decide) w2 HP.out.rd)
        rw [hz1.out] at HCt
        go_upto_region 17 with (first
          | (go_at_call 47; refine HCt.out.mono ?_; rintro e U1 ⟨rfl, hr, hk⟩; have HP' := Lib.hid (HP.out.kept HC.out hS hk hr); clear hr hk)
          | fail)
        clear HCt HP
        have HP := HP'
        clear HP'
        have HLI : Hid (LI rdIn P1 [] z1 0) := LI.start l1.out ez1.out f1.out
        have HO : Hid (U1.ownsRow (b5 + 1) 61 2 (.slice none 0 0) 0 (recCells [])) := World.ownsRow_nil _ _ _ _
        obtain ⟨i61, hi0, hz0, hz1, hz2⟩ := info_parts info61'
        have iz1 := Lib.hid hz0
        have is1 := Lib.hid hz1
        have iy1 := Lib.hid hz2
        have ix1 := Lib.hid hi0
        clear hi0 hz0 hz1 hz2
        go_loopw [] (fun wr => ∃ (acc : List (ByteArray × List ByteArray)) (sr : Option (List UInt8)) (RI : List (ByteArray × Value)) (A1 : Option Addr) (n1 c1 : Nat), Hid (PS w g b0 b5 s F1 #[.slice A0 n0 c0, .slice A1 n1 c1, .slice none 0 0, .string ⟨#[]⟩, .string ⟨#[]⟩, .slice none 0 0, .slice none 0 0] sr wr) ∧ Hid (wr.ownsRow (b5 + 1) 61 2 (.slice A1 n1 c1) n1 (recCells RI)) ∧ Hid (LI rdIn P1 acc sr n1) ∧ Hid (acc.length = RI.length) ∧ Hid (∀ l, sr = some l → Recs wr (b5 + 1) acc RI)) (fun wr => mRf wr g)
        case atStart => exact ⟨[], z1, [], none, 0, 0, HP, HO, HLI, rfl, fun l e j x hj => by simp at hj⟩
        case round =>
          clear HP HO HLI
          obtain ⟨acc, sr, RI, A1, n1, c1, HP, HO, HLI, HRL, HRC⟩ := hrel
          have hn1 : n1 ≤ 1048577 := by have h1 := HLI.out.small; have h2 := HLI.out.len; omega
          have HM := Lib.hid (rfMore_any n1 hn1 g s sr hs wr HP.out.rd)
          have hme : Hid (mRf wr g = lenR sr) := HP.out.rd.measure
          have x0 : wr.cell? ⟨b5, 1, none⟩ = some (.slice A1 n1 c1) := HP.out.r5.cell 1
          cases hb : moreB n1 sr with
          | true =>
            obtain ⟨l, l2, rfl, hp, hsep, hms⟩ := more_goes HLI.out.said HLI.out.len hb
            rw [hb, hms] at HM
            have HSEP := Lib.hid hsep
            have HPF := Lib.hid hp
            clear hb hms hsep hp
            go_upto_region 18 with (first
              | (go_at_call 48; refine HM.out.mono ?_; rintro e w1 ⟨rfl, hr, hk⟩; have HP1 := Lib.hid (HP.out.kept HC.out hS hk hr); have HO1 := Lib.hid (own_keptK HO.out hgb.out hk); have HR1 := Lib.hid (recs_kept (HRC.out l rfl) hgb.out hk); clear hr hk)
              | fail)
            clear HM HP HO x0 HRC
            obtain ⟨bo, hbo⟩ : ∃ bo, Hid (w1.heap.size = bo) := ⟨_, rfl⟩
            have hgo : Hid (g < bo) := by rw [← hbo.out]; exact HP1.out.rd.lt
            have hbbo : Hid ((b5 + 1) ≤ bo) := by have h1 := HP1.out.r5.lt; have h2 := hbo.out; rw [Hid]; omega
            go_upto_region 19 with (first
              | refine wpList_store_row rfl 61 (.tmp 7) (.tmp 56) rfl w1.heap.size #[.string ⟨#[]⟩, .slice none 0 0] rfl rfl 61 _ (heap_alloc_new w1 _) (by kernel_rfl) rfl (by simp [Value.oneCell']) ?_
              | fail)
            rw [hbo.out]
            have HBW : Hid (Below bo w1 ((w1.alloc (.cells #[.string ⟨#[]⟩, .slice none 0 0] 61)).setRow bo #[.string ⟨#[]⟩, .slice none 0 0])) := below_setRow ((Below.refl bo w1).alloc (by rw [← hbo.out]; exact Nat.le_refl _) _) (Nat.le_refl _) _
            have HE : Hid (Blk ((w1.alloc (.cells #[.string ⟨#[]⟩, .slice none 0 0] 61)).setRow bo #[.string ⟨#[]⟩, .slice none 0 0]) bo 61 #[.string ⟨#[]⟩, .slice none 0 0]) := by
              have h1 := Blk.new w1 61 #[.string ⟨#[]⟩, .slice none 0 0]
              rw [hbo.out] at h1
              exact h1.row _
            have HR : Hid (RfSt ((w1.alloc (.cells #[.string ⟨#[]⟩, .slice none 0 0] 61)).setRow bo #[.string ⟨#[]⟩, .slice none 0 0]) g s (some l2)) := HP1.out.rd.kept hgo.out HBW.out
            have HK : Hid (Kept g w1 ((w1.alloc (.cells #[.string ⟨#[]⟩, .slice none 0 0] 61)).setRow bo #[.string ⟨#[]⟩, .slice none 0 0])) := (Kept.refl g w1).belowB HBW.out (by rw [hbo.out]; exact Nat.le_refl _)
            clear HBW
            generalize (w1.alloc (.cells #[.string ⟨#[]⟩, .slice none 0 0] 61)).setRow bo #[.string ⟨#[]⟩, .slice none 0 0] = Y0 at *
            have hne : Hid (bo ≠ g) := by have := hgo.out; rw [Hid]; omega
            obtain ⟨a0, ea0⟩ : ∃ a, Hid ((some l2).bind (eat [40]) = a) := ⟨_, rfl⟩
            obtain ⟨Q0, fa0⟩ : ∃ q, Hid (a0.bind rdS = q) := ⟨_, rfl⟩
            obtain ⟨u0, ga0⟩ : ∃ u, Hid (Q0.map (·.2) = u) := ⟨_, rfl⟩
            obtain ⟨a1, ea1⟩ : ∃ a, Hid (u0.bind (eat [44]) = a) := ⟨_, rfl⟩
            obtain ⟨Q1, fa1⟩ : ∃ q, Hid (a1.bind (eachR rdS) = q) := ⟨_, rfl⟩
            obtain ⟨u1, ga1⟩ : ∃ u, Hid (Q1.map (·.2) = u) := ⟨_, rfl⟩
            obtain ⟨a2, ea2⟩ : ∃ a, Hid (u1.bind (eat [41]) = a) := ⟨_, rfl⟩
            have HCH := Lib.hid (rdIn_chainE (some l2) ea0.out fa0.out ga0.out ea1.out fa1.out ga1.out ea2.out)
            have HCt := Lib.hid (rfTake_any [40] g s (some l2) hs (by decide) Y0 HR.out)
            rw [ea0.out] at HCt
            go_upto_region 20 with (first
              | (go_at_call 47; refine HCt.out.mono ?_; rintro e y0 ⟨rfl, hr, hk⟩; have HR' := Lib.hid hr; have HE' := Lib.hid (HE.out.keptK hk hne.out); have HK' := Lib.hid (HK.out.trans hk); clear hr hk)
              | fail)
            clear HCt HR HE HK
            have HD := Lib.hid (rfQuoted_any g s a0 hs y0 HR'.out)
            rw [fa0.out, ga0.out] at HD
            go_upto_region 21 with (first
              | (go_at_call 49; refine HD.out.mono ?_; rintro e v0 ⟨q0, rfl, hr, hq, hk⟩; have HR := Lib.hid hr; have HQ0 := Lib.hid hq; have HE := Lib.hid (HE'.out.keptK hk hne.out); have HK := Lib.hid (HK'.out.trans hk); have z1 : v0.cell? ⟨bo, 0, none⟩ = some (.string ⟨#[]⟩) := HE.out.cell 0; have z2 : v0.frozen? ⟨bo, 0, none⟩ = false := HE.out.frozen 0; clear hr hk hq)
              | fail)
            clear HD HR' HE' HK' z1 z2
            have HE2 : Hid (Blk (v0.setCell ⟨bo, 0, none⟩ (.string q0)) bo 61 #[.string q0, .slice none 0 0]) := HE.out.set_ 0 _
            have HR2 : Hid (RfSt (v0.setCell ⟨bo, 0, none⟩ (.string q0)) g s u0) := HR.out.far (show g ≠ bo from fun e => hne.out e.symm) _
            have HK2 : Hid (Kept g w1 (v0.setCell ⟨bo, 0, none⟩ (.string q0))) := HK.out.belowB ((Below.refl bo v0).setCell (p := ⟨bo, 0, none⟩) (Nat.le_refl _) _) (by rw [hbo.out]; exact Nat.le_refl _)
            clear HE HR HK
            generalize v0.setCell ⟨bo, 0, none⟩ (.string q0) = Y1 at *
            have HE := HE2
            have HR := HR2
            have HK := HK2
            clear HE2 HR2 HK2
            have HCt := Lib.hid (rfTake_any [44] g s u0 hs (by decide) Y1 HR.out)
            rw [ea1.out] at HCt
            go_upto_region 22 with (first
              | (go_at_call 47; refine HCt.out.mono ?_; rintro e y1 ⟨rfl, hr, hk⟩; have HR' := Lib.hid hr; have HE' := Lib.hid (HE.out.keptK hk hne.out); have HK' := Lib.hid (HK.out.trans hk); clear hr hk)
              | fail)
            clear HCt HR HE HK
            have HD := Lib.hid (rfTexts_any g s a1 hs y1 HR'.out)
            rw [fa1.out, ga1.out] at HD
            have hyb := Lib.hid HE'.out.lt
            go_upto_region 23 with (first
              | (go_at_call 50; refine HD.out.mono ?_; rintro e v1 ⟨An, nn, cn, rfl, hr, hk, hq⟩; have HR := Lib.hid hr; have HN0 := Lib.hid hq; have HE := Lib.hid (HE'.out.keptK hk hne.out); have HK := Lib.hid (HK'.out.trans hk); have z1 : v1.cell? ⟨bo, 1, none⟩ = some (.slice none 0 0) := HE.out.cell 1; have z2 : v1.frozen? ⟨bo, 1, none⟩ = false := HE.out.frozen 1; clear hr hk hq)
              | fail)
            have HN1 : Hid (∀ p, Q1 = some p → nn = p.1.length ∧ (v1.setCell ⟨bo, 1, none⟩ (.slice An nn cn)).ownsRow (b5 + 1) 9 1 (.slice An nn cn) nn (p.1.map Value.string)) := fun p e => ⟨(HN0.out p e).1, own_weaken (own_set (HN0.out p e).2 hyb.out _) (by have h1 := hbbo.out; have h2 := hyb.out; omega)⟩
            clear HN0 hyb
            clear HD HR' HE' HK' z1 z2
            have HE2 : Hid (Blk (v1.setCell ⟨bo, 1, none⟩ (.slice An nn cn)) bo 61 #[.string q0, .slice An nn cn]) := HE.out.set_ 1 _
            have HR2 : Hid (RfSt (v1.setCell ⟨bo, 1, none⟩ (.slice An nn cn)) g s u1) := HR.out.far (show g ≠ bo from fun e => hne.out e.symm) _
            have HK2 : Hid (Kept g w1 (v1.setCell ⟨bo, 1, none⟩ (.slice An nn cn))) := HK.out.belowB ((Below.refl bo v1).setCell (p := ⟨bo, 1, none⟩) (Nat.le_refl _) _) (by rw [hbo.out]; exact Nat.le_refl _)
            clear HE HR HK
            generalize v1.setCell ⟨bo, 1, none⟩ (.slice An nn cn) = Y2 at *
            have HE := HE2
            have HR := HR2
            have HK := HK2
            clear HE2 HR2 HK2
            have HCt := Lib.hid (rfTake_any [41] g s u1 hs (by decide) Y2 HR.out)
            rw [ea2.out] at HCt
            go_upto_region 24 with (first
              | (go_at_call 47; refine HCt.out.mono ?_; rintro e ye ⟨rfl, hr, hk⟩; have HRe := Lib.hid hr; have HEe := Lib.hid (HE.out.keptK hk hne.out); have HKe := Lib.hid (HK.out.trans hk); have HN2 := Lib.hid (fun p (e : Q1 = some p) => (⟨(HN1.out p e).1, own_keptK (HN1.out p e).2 hgb.out hk⟩ : nn = p.1.length ∧ ye.ownsRow (b5 + 1) 9 1 (.slice An nn cn) nn (p.1.map Value.string))); clear hr hk)
              | fail)
            clear HCt HR HE HK
            have HPe := Lib.hid (HP1.out.kept HC.out hS HKe.out HRe.out)
            have HPa := Lib.hid (HPe.out.kept HC.out hS ((Kept.refl g ye).alloc (.cells #[.string q0, .slice An nn cn] 61)) (HPe.out.rd.kept HPe.out.rd.lt ((Below.refl _ _).alloc (Nat.le_refl _) _)))
            have HRow := Lib.hid ((own_keptK HO1.out hgb.out HKe.out).alloc (.cells #[.string q0, .slice An nn cn] 61))
            have hKo : Hid (ye.heap[bo]? = some (.cells #[.string q0, .slice An nn cn] 61 (0, 0))) := HEe.out
            have x1 : ye.cell? ⟨b5, 1, none⟩ = some (.slice A1 n1 c1) := HPe.out.r5.cell 1
            have hSz : Hid ((b5 + 1) ≤ (ye.alloc (.cells #[.string q0, .slice An nn cn] 61)).heap.size) := by have h1 := HPe.out.r5.lt; rw [Hid, World.size_alloc]; omega
            have hn2 : n1 ≤ 1048576 := by have h1 := HLI.out.fit l rfl; have h2 := HLI.out.len; omega
            go_wp2_with (first
              | refine wpList_load_row rfl 61 (.tmp 7) rfl bo rfl 61 #[.string q0, .slice An nn cn] (0, 0) _ hKo.out Tryd.underlying61 rfl (by kernel_rfl) ?_
              | (at_builtin; refine wpList_append_lies _ rfl (.tmp 70) (.tmp 72) 25 rfl (b5 + 1) 61 i61 _ 2 40 Tryd.underlying25 ix1.out iz1.out is1.out iy1.out rfl (by omega) (.slice A1 n1 c1) n1 (recCells RI) rfl HRow.out ⟨ye.heap.size, 0, none⟩ 1 1 [.string q0, .slice An nn cn] rfl rfl (World.news_of_block (cs := #[.string q0, .slice An nn cn]) (t := 61) (fr := (0, 0)) (heap_alloc_new ye _)) (by simp [Value.oneCell']) (by omega) (by unfold maxLen; omega) (by omega) hSz.out (ye.heap.size + 1) (by simp) ?_; intro gg cap w4 hown4 hgrow hat hltg; have HP4 := Lib.hid (PS.grown HC.out hGr HPa.out HRow.out hgrow); have HO4 := Lib.hid hown4; have HN4 := Lib.hid (fun p (e : Q1 = some p) => (⟨(HN2.out p e).1, ((HN2.out p e).2.alloc _).kept hgrow (own_types ((HN2.out p e).2.alloc _) HRow.out (by decide))⟩ : nn = p.1.length ∧ w4.ownsRow (b5 + 1) 9 1 (.slice An nn cn) nn (p.1.map Value.string))); have HRC4 := Lib.hid (recs_grown (recs_alloc (recs_kept HR1.out hgb.out HKe.out) _) HRow.out hgrow); have x4 : w4.cell? ⟨b5, 1, none⟩ = some (.slice A1 n1 c1) := HP4.out.r5.cell 1; have x5 : w4.frozen? ⟨b5, 1, none⟩ = false := HP4.out.r5.frozen 1; clear hown4 hgrow hat hltg x1)
              | fail)
            have HP5 : Hid (PS w g b0 b5 s F1 #[.slice A0 n0 c0, .slice (some ⟨gg, 0, none⟩) (n1 + 1) cap, .slice none 0 0, .string ⟨#[]⟩, .string ⟨#[]⟩, .slice none 0 0, .slice none 0 0] a2 (w4.setCell ⟨b5, 1, none⟩ (.slice (some ⟨gg, 0, none⟩) (n1 + 1) cap))) := HP4.out.set5 HC.out hS 1 _
            have HO5 : Hid ((w4.setCell ⟨b5, 1, none⟩ (.slice (some ⟨gg, 0, none⟩) (n1 + 1) cap)).ownsRow (b5 + 1) 61 2 (.slice (some ⟨gg, 0, none⟩) (n1 + 1) cap) (n1 + 1) (recCells (RI ++ [(q0, .slice An nn cn)]))) := by
              rw [Hid, ← recCells_snoc]
              exact own_set HO4.out (Nat.lt_succ_self _) _
            cases hrd : rdIn l2 with
            | none =>
              have hae : a2 = none := by
                rw [← HCH.out.1]
                show Option.map _ (rdIn l2) = none
                rw [hrd]
                rfl
              rw [hae] at HP5
              refine ⟨⟨_, none, _, _, _, _, HP5, HO5, HLI.out.bad HPF.out HSEP.out hrd (q0, []), by rw [Hid, List.length_append, List.length_append, HRL.out]; rfl, fun l e => by cases e⟩, ?_⟩
              rw [hme.out, HP5.out.rd.measure]
              exact Nat.succ_pos _
            | some p =>
              obtain ⟨x, r⟩ := p
              have hae : a2 = some r := by
                rw [← HCH.out.1]
                show Option.map _ (rdIn l2) = some r
                rw [hrd]
                rfl
              rw [hae] at HP5
              obtain ⟨p0, p1, h0, h1, hx⟩ := HCH.out.2 (x, r) hrd
              have hx0 := HQ0.out p0 h0
              have hx1 := HN4.out p1 h1
              have hgd := HLI.out.good rdIn_reads inD_head HPF.out HSEP.out hrd
              have hxe : x = (p0.1, p1.1) := hx
              refine ⟨⟨_, some r, _, _, _, _, HP5, HO5, hgd.1, by rw [Hid, List.length_append, List.length_append, HRL.out]; rfl, fun l e => recs_set (recs_snoc HRC4.out HRL.out ?_) (Nat.lt_succ_self _) _⟩, ?_⟩
              · rw [hxe]
                refine ⟨An, cn, by rw [hx0, hx1.1], ?_⟩
                have h9 := hx1.2
                rw [hx1.1] at h9
                exact h9
              rw [hme.out, HP5.out.rd.measure]
              exact Nat.succ_lt_succ hgd.2
          | false =>
            have hends := Lib.hid (HLI.out.ends hb)
            rw [hb] at HM
            clear hb
            go_upto_region 25 with (first
              | (go_at_call 48; refine HM.out.mono ?_; rintro e w2 ⟨rfl, hr, hk⟩; have HP2 := Lib.hid (HP.out.kept HC.out hS hk hr); have HO2 := Lib.hid (own_keptK HO.out hgb.out hk); have HR2 := Lib.hid (fun l (e : sr = some l) => recs_kept (HRC.out l e) hgb.out hk); clear hr hk)
              | fail)
            have hms : Hid (moreS n1 sr = t1) := by rw [Hid, ← ends_snd hends.out]; exact k1.out
            rw [hms.out] at HP2
            have hG : Hid ((fun W : World => ∀ p, P1 = some p → n1 = p.1.length ∧ InsRow W (b5 + 1) (.slice A1 n1 c1) n1 p.1) w2) := fun p e => by
              rw [hends.out] at e
              obtain ⟨l, hl, e⟩ := Option.map_eq_some_iff.1 e
              rw [← e]
              cases hsr : sr with
              | none => rw [hsr] at hl; unfold moreS at hl; simp [nextB] at hl
              | some l1 => exact ⟨HLI.out.len, RI, HRL.out, HO2.out, HR2.out l1 hsr⟩
            have HP := Lib.hid (HP2.out.withF (G := (fun W : World => ∀ p, P1 = some p → n1 = p.1.length ∧ InsRow W (b5 + 1) (.slice A1 n1 c1) n1 p.1)) hG.out)
            clear HP2 HO2 HLI hends hms x0 hme HM HO HRC HRL HR2 iz1 is1 iy1 ix1 hG
            obtain ⟨F2, hFF2⟩ : ∃ F, Hid (F = (fun W => (fun W : World => ∀ p, P1 = some p → n1 = p.1.length ∧ InsRow W (b5 + 1) (.slice A1 n1 c1) n1 p.1) W ∧ F1 W)) := ⟨_, rfl⟩
            have hS' : Stable (b5 + 1) F2 := by rw [hFF2.out]; exact Stable.and (stable_ins (b5 + 1) P1 (.slice A1 n1 c1) n1) hS
            rw [← hFF2.out] at HP
            clear hS
            have hS := hS'
            clear hS'
            have HCt := Lib.hid (rfTake_any [44] g s t1 hs (by decide) w2 HP.out.rd)
            rw [e2.out] at HCt
            go_upto_region 26 with (first
              | (go_at_call 47; refine HCt.out.mono ?_; rintro e U2 ⟨rfl, hr, hk⟩; have HP' := Lib.hid (HP.out.kept HC.out hS hk hr); clear hr hk)
              | fail)
            clear HCt HP
            have HP := HP'
            clear HP'
            have HD := Lib.hid (rfTexts_any g s s2 hs U2 HP.out.rd)
            rw [f2.out, k2.out] at HD
            have hxb := Lib.hid HP.out.r5.lt
            go_upto_region 27 with (first
              | (go_at_call 50; refine HD.out.mono ?_; rintro e V2 ⟨A2, n2, c2, rfl, hr, hk, hq⟩; have HP' := Lib.hid (HP.out.kept HC.out hS hk hr); have HQ := Lib.hid hq; have z1 : V2.cell? ⟨b5, 2, none⟩ = some (.slice none 0 0) := HP'.out.r5.cell 2; have z2 : V2.frozen? ⟨b5, 2, none⟩ = false := HP'.out.r5.frozen 2; clear hr hk hq)
              | fail)
            clear HD HP z1 z2
            have hG : Hid ((fun W : World => ∀ p, P2 = some p → n2 = p.1.length ∧ W.ownsRow (b5 + 1) 9 1 (.slice A2 n2 c2) n2 (p.1.map Value.string)) V2) := fun p e => ⟨(HQ.out p e).1, own_weaken (HQ.out p e).2 hxb.out⟩
            have HP := Lib.hid (HP'.out.withF (G := (fun W : World => ∀ p, P2 = some p → n2 = p.1.length ∧ W.ownsRow (b5 + 1) 9 1 (.slice A2 n2 c2) n2 (p.1.map Value.string))) hG.out)
            clear HP' hG HQ hxb
            obtain ⟨F3, hFF3⟩ : ∃ F, Hid (F = (fun W => (fun W : World => ∀ p, P2 = some p → n2 = p.1.length ∧ W.ownsRow (b5 + 1) 9 1 (.slice A2 n2 c2) n2 (p.1.map Value.string)) W ∧ F2 W)) := ⟨_, rfl⟩
            have hS' : Stable (b5 + 1) F3 := by rw [hFF3.out]; exact Stable.and (stable_own (b5 + 1) P2 List.length 9 1 (.slice A2 n2 c2) n2 (fun l => l.map Value.string)) hS
            rw [← hFF3.out] at HP
            clear hS
            have hS := hS'
            clear hS'
            have HP2 : Hid (PS w g b0 b5 s F3 #[.slice A0 n0 c0, .slice A1 n1 c1, .slice A2 n2 c2, .string ⟨#[]⟩, .string ⟨#[]⟩, .slice none 0 0, .slice none 0 0] t2 (V2.setCell ⟨b5, 2, none⟩ (.slice A2 n2 c2))) := HP.out.set5 HC.out hS 2 _
            clear HP
            generalize V2.setCell ⟨b5, 2, none⟩ (.slice A2 n2 c2) = X2 at *
            have HP := HP2
            clear HP2
            have HCt := Lib.hid (rfTake_any [44] g s t2 hs (by decide) X2 HP.out.rd)
            rw [e3.out] at HCt
            go_upto_region 28 with (first
              | (go_at_call 47; refine HCt.out.mono ?_; rintro e U3 ⟨rfl, hr, hk⟩; have HP' := Lib.hid (HP.out.kept HC.out hS hk hr); clear hr hk)
              | fail)
            clear HCt HP
            have HP := HP'
            clear HP'
            have HD := Lib.hid (rfQuoted_any g s s3 hs U3 HP.out.rd)
            rw [f3.out, k3.out] at HD
            go_upto_region 29 with (first
              | (go_at_call 49; refine HD.out.mono ?_; rintro e V3 ⟨q3, rfl, hr, hq, hk⟩; have HP' := Lib.hid (HP.out.kept HC.out hS hk hr); have HQQ3 := Lib.hid hq; have z1 : V3.cell? ⟨b5, 3, none⟩ = some (.string ⟨#[]⟩) := HP'.out.r5.cell 3; have z2 : V3.frozen? ⟨b5, 3, none⟩ = false := HP'.out.r5.frozen 3; clear hr hk hq)
              | fail)
            clear HD HP z1 z2
            have HP2 : Hid (PS w g b0 b5 s F3 #[.slice A0 n0 c0, .slice A1 n1 c1, .slice A2 n2 c2, .string q3, .string ⟨#[]⟩, .slice none 0 0, .slice none 0 0] t3 (V3.setCell ⟨b5, 3, none⟩ (.string q3))) := HP'.out.set5 HC.out hS 3 _
            clear HP'
            generalize V3.setCell ⟨b5, 3, none⟩ (.string q3) = X3 at *
            have HP := HP2
            clear HP2
            have HCt := Lib.hid (rfTake_any [44] g s t3 hs (by decide) X3 HP.out.rd)
            rw [e4.out] at HCt
            go_upto_region 30 with (first
              | (go_at_call 47; refine HCt.out.mono ?_; rintro e U4 ⟨rfl, hr, hk⟩; have HP' := Lib.hid (HP.out.kept HC.out hS hk hr); clear hr hk)
              | fail)
            clear HCt HP
            have HP := HP'
            clear HP'
            have HD := Lib.hid (rfQuoted_any g s s4 hs U4 HP.out.rd)
            rw [f4.out, k4.out] at HD
            go_upto_region 31 with (first
              | (go_at_call 49; refine HD.out.mono ?_; rintro e V4 ⟨q4, rfl, hr, hq, hk⟩; have HP' := Lib.hid (HP.out.kept HC.out hS hk hr); have HQQ4 := Lib.hid hq; have z1 : V4.cell? ⟨b5, 4, none⟩ = some (.string ⟨#[]⟩) := HP'.out.r5.cell 4; have z2 : V4.frozen? ⟨b5, 4, none⟩ = false := HP'.out.r5.frozen 4; clear hr hk hq)
              | fail)
            clear HD HP z1 z2
            have HP2 : Hid (PS w g b0 b5 s F3 #[.slice A0 n0 c0, .slice A1 n1 c1, .slice A2 n2 c2, .string q3, .string q4, .slice none 0 0, .slice none 0 0] t4 (V4.setCell ⟨b5, 4, none⟩ (.string q4))) := HP'.out.set5 HC.out hS 4 _
            clear HP'
            generalize V4.setCell ⟨b5, 4, none⟩ (.string q4) = X4 at *
            have HP := HP2
            clear HP2
            have HCt := Lib.hid (rfTake_any [44] g s t4 hs (by decide) X4 HP.out.rd)
            rw [e5.out] at HCt
            go_upto_region 32 with (first
              | (go_at_call 47; refine HCt.out.mono ?_; rintro e U5 ⟨rfl, hr, hk⟩; have HP' := Lib.hid (HP.out.kept HC.out hS hk hr); clear hr hk)
              | fail)
            clear HCt HP
            have HP := HP'
            clear HP'
            have HD := Lib.hid (rfTexts_any g s s5 hs U5 HP.out.rd)
            rw [f5.out, k5.out] at HD
            have hxb := Lib.hid HP.out.r5.lt
            go_upto_region 33 with (first
              | (go_at_call 50; refine HD.out.mono ?_; rintro e V5 ⟨A5, n5, c5, rfl, hr, hk, hq⟩; have HP' := Lib.hid (HP.out.kept HC.out hS hk hr); have HQ := Lib.hid hq; have z1 : V5.cell? ⟨b5, 5, none⟩ = some (.slice none 0 0) := HP'.out.r5.cell 5; have z2 : V5.frozen? ⟨b5, 5, none⟩ = false := HP'.out.r5.frozen 5; clear hr hk hq)
              | fail)
            clear HD HP z1 z2
            have hG : Hid ((fun W : World => ∀ p, P5 = some p → n5 = p.1.length ∧ W.ownsRow (b5 + 1) 9 1 (.slice A5 n5 c5) n5 (p.1.map Value.string)) V5) := fun p e => ⟨(HQ.out p e).1, own_weaken (HQ.out p e).2 hxb.out⟩
            have HP := Lib.hid (HP'.out.withF (G := (fun W : World => ∀ p, P5 = some p → n5 = p.1.length ∧ W.ownsRow (b5 + 1) 9 1 (.slice A5 n5 c5) n5 (p.1.map Value.string))) hG.out)
            clear HP' hG HQ hxb
            obtain ⟨F6, hFF6⟩ : ∃ F, Hid (F = (fun W => (fun W : World => ∀ p, P5 = some p → n5 = p.1.length ∧ W.ownsRow (b5 + 1) 9 1 (.slice A5 n5 c5) n5 (p.1.map Value.string)) W ∧ F3 W)) := ⟨_, rfl⟩
            have hS' : Stable (b5 + 1) F6 := by rw [hFF6.out]; exact Stable.and (stable_own (b5 + 1) P5 List.length 9 1 (.slice A5 n5 c5) n5 (fun l => l.map Value.string)) hS
            rw [← hFF6.out] at HP
            clear hS
            have hS := hS'
            clear hS'
            have HP2 : Hid (PS w g b0 b5 s F6 #[.slice A0 n0 c0, .slice A1 n1 c1, .slice A2 n2 c2, .string q3, .string q4, .slice A5 n5 c5, .slice none 0 0] t5 (V5.setCell ⟨b5, 5, none⟩ (.slice A5 n5 c5))) := HP.out.set5 HC.out hS 5 _
            clear HP
            generalize V5.setCell ⟨b5, 5, none⟩ (.slice A5 n5 c5) = X5 at *
            have HP := HP2
            clear HP2
            have HCt := Lib.hid (rfTake_any [44, 91] g s t5 hs (by decide) X5 HP.out.rd)
            rw [hz6.out] at HCt
            go_upto_region 34 with (first
              | (go_at_call 47; refine HCt.out.mono ?_; rintro e U6 ⟨rfl, hr, hk⟩; have HP' := Lib.hid (HP.out.kept HC.out hS hk hr); clear hr hk)
              | fail)
            clear HCt HP
            have HP := HP'
            clear HP'
            have hGr1 : Grown 70 F6 := by rw [hFF6.out, hFF3.out, hFF2.out, hFF1.out, hFF0.out]; exact Grown.and (grown_own (e' := 9) (by decide) (b5 + 1) P5 List.length 1 (.slice A5 n5 c5) n5 (fun l => l.map Value.string)) (Grown.and (grown_own (e' := 9) (by decide) (b5 + 1) P2 List.length 1 (.slice A2 n2 c2) n2 (fun l => l.map Value.string)) (Grown.and (grown_ins (by decide) (by decide) (b5 + 1) P1 (.slice A1 n1 c1) n1) (Grown.and (grown_own (e' := 49) (by decide) (b5 + 1) P0 List.length 3 (.slice A0 n0 c0) n0 outsCells) (grown_true _))))
            clear hGr
            have hGr := hGr1
            clear hGr1
            have HLI : Hid (LI rdEnv P6 [] z6 0) := LI.start l6.out ez6.out f6.out
            have HO : Hid (U6.ownsRow (b5 + 1) 70 2 (.slice none 0 0) 0 (pairsCells [])) := World.ownsRow_nil _ _ _ _
            obtain ⟨i70, hi0, hz0, hz1, hz2⟩ := info_parts info70'
            have iz6 := Lib.hid hz0
            have is6 := Lib.hid hz1
            have iy6 := Lib.hid hz2
            have ix6 := Lib.hid hi0
            clear hi0 hz0 hz1 hz2
            go_loopw [] (fun wr => ∃ (acc : List (ByteArray × ByteArray)) (sr : Option (List UInt8)) (A6 : Option Addr) (n6 c6 : Nat), Hid (PS w g b0 b5 s F6 #[.slice A0 n0 c0, .slice A1 n1 c1, .slice A2 n2 c2, .string q3, .string q4, .slice A5 n5 c5, .slice A6 n6 c6] sr wr) ∧ Hid (wr.ownsRow (b5 + 1) 70 2 (.slice A6 n6 c6) n6 (pairsCells acc)) ∧ Hid (LI rdEnv P6 acc sr n6)) (fun wr => mRf wr g)
            case atStart => exact ⟨[], z6, none, 0, 0, HP, HO, HLI⟩
            case round =>
              clear HP HO HLI
              obtain ⟨acc, sr, A6, n6, c6, HP, HO, HLI⟩ := hrel
              have hn1 : n6 ≤ 1048577 := by have h1 := HLI.out.small; have h2 := HLI.out.len; omega
              have HM := Lib.hid (rfMore_any n6 hn1 g s sr hs wr HP.out.rd)
              have hme : Hid (mRf wr g = lenR sr) := HP.out.rd.measure
              have x0 : wr.cell? ⟨b5, 6, none⟩ = some (.slice A6 n6 c6) := HP.out.r5.cell 6
              cases hb : moreB n6 sr with
              | true =>
                obtain ⟨l, l2, rfl, hp, hsep, hms⟩ := more_goes HLI.out.said HLI.out.len hb
                rw [hb, hms] at HM
                have HSEP := Lib.hid hsep
                have HPF := Lib.hid hp
                clear hb hms hsep hp
                go_upto_region 35 with (first
                  | (go_at_call 48; refine HM.out.mono ?_; rintro e w1 ⟨rfl, hr, hk⟩; have HP1 := Lib.hid (HP.out.kept HC.out hS hk hr); have HO1 := Lib.hid (own_keptK HO.out hgb.out hk); clear hr hk)
                  | fail)
                clear HM HP HO x0
                obtain ⟨bo, hbo⟩ : ∃ bo, Hid (w1.heap.size = bo) := ⟨_, rfl⟩
                have hgo : Hid (g < bo) := by rw [← hbo.out]; exact HP1.out.rd.lt
                have hbbo : Hid ((b5 + 1) ≤ bo) := by have h1 := HP1.out.r5.lt; have h2 := hbo.out; rw [Hid]; omega
                go_upto_region 36 with (first
                  | refine wpList_store_row rfl 70 (.tmp 8) (.tmp 102) rfl w1.heap.size #[.string ⟨#[]⟩, .string ⟨#[]⟩] rfl rfl 70 _ (heap_alloc_new w1 _) (by kernel_rfl) rfl (by simp [Value.oneCell']) ?_
                  | fail)
                rw [hbo.out]
                have HBW : Hid (Below bo w1 ((w1.alloc (.cells #[.string ⟨#[]⟩, .string ⟨#[]⟩] 70)).setRow bo #[.string ⟨#[]⟩, .string ⟨#[]⟩])) := below_setRow ((Below.refl bo w1).alloc (by rw [← hbo.out]; exact Nat.le_refl _) _) (Nat.le_refl _) _
                have HE : Hid (Blk ((w1.alloc (.cells #[.string ⟨#[]⟩, .string ⟨#[]⟩] 70)).setRow bo #[.string ⟨#[]⟩, .string ⟨#[]⟩]) bo 70 #[.string ⟨#[]⟩, .string ⟨#[]⟩]) := by
                  have h1 := Blk.new w1 70 #[.string ⟨#[]⟩, .string ⟨#[]⟩]
                  rw [hbo.out] at h1
                  exact h1.row _
                have HR : Hid (RfSt ((w1.alloc (.cells #[.string ⟨#[]⟩, .string ⟨#[]⟩] 70)).setRow bo #[.string ⟨#[]⟩, .string ⟨#[]⟩]) g s (some l2)) := HP1.out.rd.kept hgo.out HBW.out
                have HK : Hid (Kept g w1 ((w1.alloc (.cells #[.string ⟨#[]⟩, .string ⟨#[]⟩] 70)).setRow bo #[.string ⟨#[]⟩, .string ⟨#[]⟩])) := (Kept.refl g w1).belowB HBW.out (by rw [hbo.out]; exact Nat.le_refl _)
                clear HBW
                generalize (w1.alloc (.cells #[.string ⟨#[]⟩, .string ⟨#[]⟩] 70)).setRow bo #[.string ⟨#[]⟩, .string ⟨#[]⟩] = Y0 at *
                have hne : Hid (bo ≠ g) := by have := hgo.out; rw [Hid]; omega
                obtain ⟨a0, ea0⟩ : ∃ a, Hid ((some l2).bind (eat [40]) = a) := ⟨_, rfl⟩
                obtain ⟨Q0, fa0⟩ : ∃ q, Hid (a0.bind rdS = q) := ⟨_, rfl⟩
                obtain ⟨u0, ga0⟩ : ∃ u, Hid (Q0.map (·.2) = u) := ⟨_, rfl⟩
                obtain ⟨a1, ea1⟩ : ∃ a, Hid (u0.bind (eat [44]) = a) := ⟨_, rfl⟩
                obtain ⟨Q1, fa1⟩ : ∃ q, Hid (a1.bind rdS = q) := ⟨_, rfl⟩
                obtain ⟨u1, ga1⟩ : ∃ u, Hid (Q1.map (·.2) = u) := ⟨_, rfl⟩
                obtain ⟨a2, ea2⟩ : ∃ a, Hid (u1.bind (eat [41]) = a) := ⟨_, rfl⟩
                have HCH := Lib.hid (rdEnv_chain (some l2) ea0.out fa0.out ga0.out ea1.out fa1.out ga1.out ea2.out)
                have HCt := Lib.hid (rfTake_any [40] g s (some l2) hs (by decide) Y0 HR.out)
                rw [ea0.out] at HCt
                go_upto_region 37 with (first
                  | (go_at_call 47; refine HCt.out.mono ?_; rintro e y0 ⟨rfl, hr, hk⟩; have HR' := Lib.hid hr; have HE' := Lib.hid (HE.out.keptK hk hne.out); have HK' := Lib.hid (HK.out.trans hk); clear hr hk)
                  | fail)
                clear HCt HR HE HK
                have HD := Lib.hid (rfQuoted_any g s a0 hs y0 HR'.out)
                rw [fa0.out, ga0.out] at HD
                go_upto_region 38 with (first
                  | (go_at_call 49; refine HD.out.mono ?_; rintro e v0 ⟨q0, rfl, hr, hq, hk⟩; have HR := Lib.hid hr; have HQ0 := Lib.hid hq; have HE := Lib.hid (HE'.out.keptK hk hne.out); have HK := Lib.hid (HK'.out.trans hk); have z1 : v0.cell? ⟨bo, 0, none⟩ = some (.string ⟨#[]⟩) := HE.out.cell 0; have z2 : v0.frozen? ⟨bo, 0, none⟩ = false := HE.out.frozen 0; clear hr hk hq)
                  | fail)
                clear HD HR' HE' HK' z1 z2
                have HE2 : Hid (Blk (v0.setCell ⟨bo, 0, none⟩ (.string q0)) bo 70 #[.string q0, .string ⟨#[]⟩]) := HE.out.set_ 0 _
                have HR2 : Hid (RfSt (v0.setCell ⟨bo, 0, none⟩ (.string q0)) g s u0) := HR.out.far (show g ≠ bo from fun e => hne.out e.symm) _
                have HK2 : Hid (Kept g w1 (v0.setCell ⟨bo, 0, none⟩ (.string q0))) := HK.out.belowB ((Below.refl bo v0).setCell (p := ⟨bo, 0, none⟩) (Nat.le_refl _) _) (by rw [hbo.out]; exact Nat.le_refl _)
                clear HE HR HK
                generalize v0.setCell ⟨bo, 0, none⟩ (.string q0) = Y1 at *
                have HE := HE2
                have HR := HR2
                have HK := HK2
                clear HE2 HR2 HK2
                have HCt := Lib.hid (rfTake_any [44] g s u0 hs (by decide) Y1 HR.out)
                rw [ea1.out] at HCt
                go_upto_region 39 with (first
                  | (go_at_call 47; refine HCt.out.mono ?_; rintro e y1 ⟨rfl, hr, hk⟩; have HR' := Lib.hid hr; have HE' := Lib.hid (HE.out.keptK hk hne.out); have HK' := Lib.hid (HK.out.trans hk); clear hr hk)
                  | fail)
                clear HCt HR HE HK
                have HD := Lib.hid (rfQuoted_any g s a1 hs y1 HR'.out)
                rw [fa1.out, ga1.out] at HD
                go_upto_region 40 with (first
                  | (go_at_call 49; refine HD.out.mono ?_; rintro e v1 ⟨q1, rfl, hr, hq, hk⟩; have HR := Lib.hid hr; have HQ1 := Lib.hid hq; have HE := Lib.hid (HE'.out.keptK hk hne.out); have HK := Lib.hid (HK'.out.trans hk); have z1 : v1.cell? ⟨bo, 1, none⟩ = some (.string ⟨#[]⟩) := HE.out.cell 1; have z2 : v1.frozen? ⟨bo, 1, none⟩ = false := HE.out.frozen 1; clear hr hk hq)
                  | fail)
                clear HD HR' HE' HK' z1 z2
                have HE2 : Hid (Blk (v1.setCell ⟨bo, 1, none⟩ (.string q1)) bo 70 #[.string q0, .string q1]) := HE.out.set_ 1 _
                have HR2 : Hid (RfSt (v1.setCell ⟨bo, 1, none⟩ (.string q1)) g s u1) := HR.out.far (show g ≠ bo from fun e => hne.out e.symm) _
                have HK2 : Hid (Kept g w1 (v1.setCell ⟨bo, 1, none⟩ (.string q1))) := HK.out.belowB ((Below.refl bo v1).setCell (p := ⟨bo, 1, none⟩) (Nat.le_refl _) _) (by rw [hbo.out]; exact Nat.le_refl _)
                clear HE HR HK
                generalize v1.setCell ⟨bo, 1, none⟩ (.string q1) = Y2 at *
                have HE := HE2
                have HR := HR2
                have HK := HK2
                clear HE2 HR2 HK2
                have HCt := Lib.hid (rfTake_any [41] g s u1 hs (by decide) Y2 HR.out)
                rw [ea2.out] at HCt
                go_upto_region 41 with (first
                  | (go_at_call 47; refine HCt.out.mono ?_; rintro e ye ⟨rfl, hr, hk⟩; have HRe := Lib.hid hr; have HEe := Lib.hid (HE.out.keptK hk hne.out); have HKe := Lib.hid (HK.out.trans hk); clear hr hk)
                  | fail)
                clear HCt HR HE HK
                have HPe := Lib.hid (HP1.out.kept HC.out hS HKe.out HRe.out)
                have HPa := Lib.hid (HPe.out.kept HC.out hS ((Kept.refl g ye).alloc (.cells #[.string q0, .string q1] 70)) (HPe.out.rd.kept HPe.out.rd.lt ((Below.refl _ _).alloc (Nat.le_refl _) _)))
                have HRow := Lib.hid ((own_keptK HO1.out hgb.out HKe.out).alloc (.cells #[.string q0, .string q1] 70))
                have hKo : Hid (ye.heap[bo]? = some (.cells #[.string q0, .string q1] 70 (0, 0))) := HEe.out
                have x1 : ye.cell? ⟨b5, 6, none⟩ = some (.slice A6 n6 c6) := HPe.out.r5.cell 6
                have hSz : Hid ((b5 + 1) ≤ (ye.alloc (.cells #[.string q0, .string q1] 70)).heap.size) := by have h1 := HPe.out.r5.lt; rw [Hid, World.size_alloc]; omega
                have hn2 : n6 ≤ 1048576 := by have h1 := HLI.out.fit l rfl; have h2 := HLI.out.len; omega
                go_wp2_with (first
                  | refine wpList_load_row rfl 70 (.tmp 8) rfl bo rfl 70 #[.string q0, .string q1] (0, 0) _ hKo.out Tryd.underlying70 rfl (by kernel_rfl) ?_
                  | (at_builtin; refine wpList_append_lies _ rfl (.tmp 116) (.tmp 118) 27 rfl (b5 + 1) 70 i70 _ 2 32 Tryd.underlying27 ix6.out iz6.out is6.out iy6.out rfl (by omega) (.slice A6 n6 c6) n6 (pairsCells acc) rfl HRow.out ⟨ye.heap.size, 0, none⟩ 1 1 [.string q0, .string q1] rfl rfl (World.news_of_block (cs := #[.string q0, .string q1]) (t := 70) (fr := (0, 0)) (heap_alloc_new ye _)) (by simp [Value.oneCell']) (by omega) (by unfold maxLen; omega) (by omega) hSz.out (ye.heap.size + 1) (by simp) ?_; intro gg cap w4 hown4 hgrow hat hltg; have HP4 := Lib.hid (PS.grown HC.out hGr HPa.out HRow.out hgrow); have HO4 := Lib.hid hown4; have x4 : w4.cell? ⟨b5, 6, none⟩ = some (.slice A6 n6 c6) := HP4.out.r5.cell 6; have x5 : w4.frozen? ⟨b5, 6, none⟩ = false := HP4.out.r5.frozen 6; clear hown4 hgrow hat hltg x1)
                  | fail)
                have HP5 : Hid (PS w g b0 b5 s F6 #[.slice A0 n0 c0, .slice A1 n1 c1, .slice A2 n2 c2, .string q3, .string q4, .slice A5 n5 c5, .slice (some ⟨gg, 0, none⟩) (n6 + 1) cap] a2 (w4.setCell ⟨b5, 6, none⟩ (.slice (some ⟨gg, 0, none⟩) (n6 + 1) cap))) := HP4.out.set5 HC.out hS 6 _
                have HO5 : Hid ((w4.setCell ⟨b5, 6, none⟩ (.slice (some ⟨gg, 0, none⟩) (n6 + 1) cap)).ownsRow (b5 + 1) 70 2 (.slice (some ⟨gg, 0, none⟩) (n6 + 1) cap) (n6 + 1) (pairsCells (acc ++ [(q0, q1)]))) := by
                  rw [Hid, pairsCells_snoc]
                  exact own_set HO4.out (Nat.lt_succ_self _) _
                cases hrd : rdEnv l2 with
                | none =>
                  have hae : a2 = none := by
                    rw [← HCH.out.1]
                    show Option.map _ (rdEnv l2) = none
                    rw [hrd]
                    rfl
                  rw [hae] at HP5
                  refine ⟨⟨_, none, _, _, _, HP5, HO5, HLI.out.bad HPF.out HSEP.out hrd (q0, q1)⟩, ?_⟩
                  rw [hme.out, HP5.out.rd.measure]
                  exact Nat.succ_pos _
                | some p =>
                  obtain ⟨x, r⟩ := p
                  have hae : a2 = some r := by
                    rw [← HCH.out.1]
                    show Option.map _ (rdEnv l2) = some r
                    rw [hrd]
                    rfl
                  rw [hae] at HP5
                  obtain ⟨p0, p1, h0, h1, hx⟩ := HCH.out.2 (x, r) hrd
                  have hx0 := HQ0.out p0 h0; have hx1 := HQ1.out p1 h1
                  have hxe : (q0, q1) = x := by
                    show (q0, q1) = (x, r).1
                    rw [hx, hx0, hx1]
                  rw [hxe] at HO5
                  have hgd := HLI.out.good rdEnv_reads envD_head HPF.out HSEP.out hrd
                  refine ⟨⟨_, some r, _, _, _, HP5, HO5, hgd.1⟩, ?_⟩
                  rw [hme.out, HP5.out.rd.measure]
                  exact Nat.succ_lt_succ hgd.2
              | false =>
                have hends := Lib.hid (HLI.out.ends hb)
                rw [hb] at HM
                clear hb
                go_upto_region 42 with (first
                  | (go_at_call 48; refine HM.out.mono ?_; rintro e w2 ⟨rfl, hr, hk⟩; have HP2 := Lib.hid (HP.out.kept HC.out hS hk hr); have HO2 := Lib.hid (own_keptK HO.out hgb.out hk); clear hr hk)
                  | fail)
                have hms : Hid (moreS n6 sr = t6) := by rw [Hid, ← ends_snd hends.out]; exact k6.out
                rw [hms.out] at HP2
                have hG : Hid ((fun W : World => ∀ p, P6 = some p → n6 = p.1.length ∧ W.ownsRow (b5 + 1) 70 2 (.slice A6 n6 c6) n6 (pairsCells p.1)) w2) := fun p e => by
                  rw [hends.out] at e
                  obtain ⟨l, hl, e⟩ := Option.map_eq_some_iff.1 e
                  rw [← e]
                  exact ⟨HLI.out.len, HO2.out⟩
                have HP := Lib.hid (HP2.out.withF (G := (fun W : World => ∀ p, P6 = some p → n6 = p.1.length ∧ W.ownsRow (b5 + 1) 70 2 (.slice A6 n6 c6) n6 (pairsCells p.1))) hG.out)
                clear HP2 HO2 HLI hends hms x0 hme HM HO iz6 is6 iy6 ix6 hG
                obtain ⟨F7, hFF7⟩ : ∃ F, Hid (F = (fun W => (fun W : World => ∀ p, P6 = some p → n6 = p.1.length ∧ W.ownsRow (b5 + 1) 70 2 (.slice A6 n6 c6) n6 (pairsCells p.1)) W ∧ F6 W)) := ⟨_, rfl⟩
                have hS' : Stable (b5 + 1) F7 := by rw [hFF7.out]; exact Stable.and (stable_own (b5 + 1) P6 List.length 70 2 (.slice A6 n6 c6) n6 pairsCells) hS
                rw [← hFF7.out] at HP
                clear hS
                have hS := hS'
                clear hS'
                have HCt := Lib.hid (rfTake_any [41] g s t6 hs (by decide) w2 HP.out.rd)
                rw [e7.out] at HCt
                go_upto_region 43 with (first
                  | (go_at_call 47; refine HCt.out.mono ?_; rintro e W7 ⟨rfl, hr, hk⟩; have HP' := Lib.hid (HP.out.kept HC.out hS hk hr); clear hr hk)
                  | fail)
                clear HCt HP
                have HP := HP'
                clear HP'
                have HKEY : Hid (∀ p, st.bind rdD = some p → #[.slice A0 n0 c0, .slice A1 n1 c1, .slice A2 n2 c2, .string q3, .string q4, .slice A5 n5 c5, .slice A6 n6 c6] = drvCells p.1 ⟨A0, A1, A2, A5, A6, c0, c1, c2, c5, c6⟩ ∧ DrvAt (wipe b0 W7) p.1 ⟨A0, A1, A2, A5, A6, c0, c1, c2, c5, c6⟩) := fun p e => by
                  obtain ⟨p0, p1, p2, p3, p4, p5, p6, a0, a1, a2, a3, a4, a5, a6, hd⟩ := HDC.out.2 p e
                  have hFw := hS.kept (show b0 < (b5 + 1) by have := hb5.out; omega) (kept_to_wipe b0 _) HP.out.own
                  rw [hFF7.out, hFF6.out, hFF3.out, hFF2.out, hFF1.out, hFF0.out] at hFw
                  obtain ⟨G6, G5, G2, G1, G0, _⟩ := hFw
                  have o0 := G0 p0 a0
                  have o1 := G1 p1 a1
                  have o2 := G2 p2 a2
                  have o5 := G5 p5 a5
                  have o6 := G6 p6 a6
                  have z3 := HQQ3.out p3 a3
                  have z4 := HQQ4.out p4 a4
                  rw [hd]
                  refine ⟨by unfold drvCells; rw [o0.1, o1.1, o2.1, o5.1, o6.1, z3, z4], ?_⟩
                  have r0 := row_forms o0.2
                  have r1 := insRow_forms o1.2
                  have r2 := row_forms o2.2
                  have r5 := row_forms o5.2
                  have r6 := row_forms o6.2
                  rw [o0.1] at r0
                  rw [o1.1] at r1
                  rw [o2.1] at r2
                  rw [o5.1] at r5
                  rw [o6.1] at r6
                  exact ⟨owned_outs o0.1 o0.2, insRow_at o1.1 o1.2, owned_strs2 o2.1 o2.2, owned_strs2 o5.1 o5.2, owned_pairs o6.1 o6.2, r0.1, r1.1, r2.1, r5.1, r6.1, r0.2.1, r1.2, r2.2.1, r5.2.1, r6.2.1, r0.2.2, r2.2.2, r5.2.2, r6.2.2⟩
                have HS7 : Hid ((rdD s.data.toList).map (·.2) = s7) := by rw [Hid, ← HDC.out.1, ← hst.out]; rfl
                rw [← hst.out] at HKEY
                have HRR := Lib.hid HP.out.rd
                have hK0 : Hid (W7.heap[b0]? = some (.cells #[.slice none 0 0, .slice none 0 0, .slice none 0 0, .string ⟨#[]⟩, .string ⟨#[]⟩, .slice none 0 0, .slice none 0 0] 29 (0, 0))) := HP.out.r0
                have hK5 : Hid (W7.heap[b5]? = some (.cells #[.slice A0 n0 c0, .slice A1 n1 c1, .slice A2 n2 c2, .string q3, .string q4, .slice A5 n5 c5, .slice A6 n6 c6] 29 (0, 0))) := HP.out.r5
                have HL := Lib.hid HP.out.low
                clear HP
                cases hrd : rdD s.data.toList with
                | none =>
                  have hs7 : s7 = none := by rw [← HS7.out, hrd]; rfl
                  rw [hs7] at HRR
                  have hnone := Lib.hid (parsed_none hsmall.out (show parseD s.data.toList = none by unfold parseD; rw [hrd]; rfl))
                  obtain ⟨kk, hkk, hbk⟩ := HRR.out
                  have y2 : W7.cell? ⟨g, 2, none⟩ = some (.bool true) := hbk.cell 2
                  clear hrd hbk HKEY
                  have HBf : Hid (Blk (W7.setRow b0 #[.slice none 0 0, .slice none 0 0, .slice none 0 0, .string ⟨#[]⟩, .string ⟨#[]⟩, .slice none 0 0, .slice none 0 0]) b0 29 #[.slice none 0 0, .slice none 0 0, .slice none 0 0, .string ⟨#[]⟩, .string ⟨#[]⟩, .slice none 0 0, .slice none 0 0]) := Blk.row (show Blk W7 b0 29 #[.slice none 0 0, .slice none 0 0, .slice none 0 0, .string ⟨#[]⟩, .string ⟨#[]⟩, .slice none 0 0, .slice none 0 0] from hK0.out) _
                  have HBF : Hid (Below w.heap.size w (W7.setRow b0 #[.slice none 0 0, .slice none 0 0, .slice none 0 0, .string ⟨#[]⟩, .string ⟨#[]⟩, .slice none 0 0, .slice none 0 0])) := below_setRow HL.out (by rw [hb0.out]; exact Nat.le_refl _) _
                  go_wp2_with (first
                    | refine wpList_store_row rfl 29 (.tmp 2) (.tmp 136) rfl b0 #[.slice none 0 0, .slice none 0 0, .slice none 0 0, .string ⟨#[]⟩, .string ⟨#[]⟩, .slice none 0 0, .slice none 0 0] rfl rfl 29 _ hK0.out (by kernel_rfl) rfl (by simp [Value.oneCell']) ?_
                    | fail)
                  first
                    | refine bodyPost_ret (results_row_tmp rfl _ _ b0 29 #[.slice none 0 0, .slice none 0 0, .slice none 0 0, .string ⟨#[]⟩, .string ⟨#[]⟩, .slice none 0 0, .slice none 0 0] (0, 0) _ rfl HBf.out Tryd.underlying29 rfl (by kernel_rfl)) rfl ?_
                    | refine bodyPost_end (results_row_tmp rfl _ _ b0 29 #[.slice none 0 0, .slice none 0 0, .slice none 0 0, .string ⟨#[]⟩, .string ⟨#[]⟩, .slice none 0 0, .slice none 0 0] (0, 0) _ rfl HBf.out Tryd.underlying29 rfl (by kernel_rfl)) rfl ?_
                  exact parse_ret (d := emptyD) (a := nilA) rfl hnone.out (empty_at _) HBF.out
                | some p =>
                  obtain ⟨d, r⟩ := p
                  have hs7 : s7 = some r := by rw [← HS7.out, hrd]; rfl
                  rw [hs7] at HRR
                  obtain ⟨kk, hkk, hdr, hbk⟩ := HRR.out
                  have y1 : W7.cell? ⟨g, 1, none⟩ = some (.int .i64 (kk : Int)) := hbk.cell 1
                  have y2 : W7.cell? ⟨g, 2, none⟩ = some (.bool false) := hbk.cell 2
                  obtain ⟨hcs, hda⟩ := HKEY.out (d, r) hrd
                  have HCS := Lib.hid hcs
                  have HDA := Lib.hid hda
                  clear hcs hda HKEY hbk
                  cases r with
                  | cons x t =>
                    have hnone := Lib.hid (parsed_none hsmall.out (show parseD s.data.toList = none by unfold parseD; rw [hrd]; rfl))
                    have hks : (kk : Int) < (s.size : Int) := by
                      obtain ⟨_, h1, _⟩ := drop_succ hdr
                      omega
                    clear hrd hdr
                    have HBf : Hid (Blk (W7.setRow b0 #[.slice none 0 0, .slice none 0 0, .slice none 0 0, .string ⟨#[]⟩, .string ⟨#[]⟩, .slice none 0 0, .slice none 0 0]) b0 29 #[.slice none 0 0, .slice none 0 0, .slice none 0 0, .string ⟨#[]⟩, .string ⟨#[]⟩, .slice none 0 0, .slice none 0 0]) := Blk.row (show Blk W7 b0 29 #[.slice none 0 0, .slice none 0 0, .slice none 0 0, .string ⟨#[]⟩, .string ⟨#[]⟩, .slice none 0 0, .slice none 0 0] from hK0.out) _
                    have HBF : Hid (Below w.heap.size w (W7.setRow b0 #[.slice none 0 0, .slice none 0 0, .slice none 0 0, .string ⟨#[]⟩, .string ⟨#[]⟩, .slice none 0 0, .slice none 0 0])) := below_setRow HL.out (by rw [hb0.out]; exact Nat.le_refl _) _
                    go_wp2_with (first
                      | refine wpList_store_row rfl 29 (.tmp 2) (.tmp 136) rfl b0 #[.slice none 0 0, .slice none 0 0, .slice none 0 0, .string ⟨#[]⟩, .string ⟨#[]⟩, .slice none 0 0, .slice none 0 0] rfl rfl 29 _ hK0.out (by kernel_rfl) rfl (by simp [Value.oneCell']) ?_
                      | fail)
                    first
                      | refine bodyPost_ret (results_row_tmp rfl _ _ b0 29 #[.slice none 0 0, .slice none 0 0, .slice none 0 0, .string ⟨#[]⟩, .string ⟨#[]⟩, .slice none 0 0, .slice none 0 0] (0, 0) _ rfl HBf.out Tryd.underlying29 rfl (by kernel_rfl)) rfl ?_
                      | refine bodyPost_end (results_row_tmp rfl _ _ b0 29 #[.slice none 0 0, .slice none 0 0, .slice none 0 0, .string ⟨#[]⟩, .string ⟨#[]⟩, .slice none 0 0, .slice none 0 0] (0, 0) _ rfl HBf.out Tryd.underlying29 rfl (by kernel_rfl)) rfl ?_
                    exact parse_ret (d := emptyD) (a := nilA) rfl hnone.out (empty_at _) HBF.out
                  | nil =>
                    have hpd := Lib.hid (show parseD s.data.toList = some d by unfold parseD; rw [hrd]; rfl)
                    have hks : ¬ (kk : Int) < (s.size : Int) := by
                      have h1 := congrArg List.length hdr
                      rw [List.length_drop, tx_get] at h1
                      simp at h1
                      omega
                    clear hrd hdr
                    have HRt := Lib.hid (refRight_any d _ W7 HDA.out.unwipe)
                    rw [← HCS.out] at HRt
                    obtain ⟨er, her⟩ : ∃ er, Hid (rightE d = er) := ⟨_, rfl⟩
                    rw [her.out] at HRt
                    go_upto_region 46 with (first
                      | refine wpList_load_row rfl 29 (.tmp 5) rfl b5 rfl 29 #[.slice A0 n0 c0, .slice A1 n1 c1, .slice A2 n2 c2, .string q3, .string q4, .slice A5 n5 c5, .slice A6 n6 c6] (0, 0) _ hK5.out Tryd.underlying29 rfl (by kernel_rfl) ?_
                      | (go_at_call 13; refine HRt.out.mono ?_; rintro e w7 ⟨rfl, hb⟩; have HBR := Lib.hid hb; clear hb)
                      | fail)
                    have hK7 : Hid (w7.heap[b0]? = some (.cells #[.slice none 0 0, .slice none 0 0, .slice none 0 0, .string ⟨#[]⟩, .string ⟨#[]⟩, .slice none 0 0, .slice none 0 0] 29 (0, 0))) := by
                      have h1 : Blk W7 b0 29 #[.slice none 0 0, .slice none 0 0, .slice none 0 0, .string ⟨#[]⟩, .string ⟨#[]⟩, .slice none 0 0, .slice none 0 0] := hK0.out
                      exact h1.below HBR.out h1.lt
                    have hK57 : Hid (w7.heap[b5]? = some (.cells #[.slice A0 n0 c0, .slice A1 n1 c1, .slice A2 n2 c2, .string q3, .string q4, .slice A5 n5 c5, .slice A6 n6 c6] 29 (0, 0))) := by
                      have h1 : Blk W7 b5 29 #[.slice A0 n0 c0, .slice A1 n1 c1, .slice A2 n2 c2, .string q3, .string q4, .slice A5 n5 c5, .slice A6 n6 c6] := hK5.out
                      exact h1.below HBR.out h1.lt
                    have HL7 : Hid (Below w.heap.size w w7) := HL.out.trans (HBR.out.mono HL.out.size)
                    have HD7 := Lib.hid (HDA.out.keptW ((Kept.refl b0 W7).below HBR.out))
                    clear HRt y1 y2
                    by_cases he0 : er = 0
                    · have HBf : Hid (Blk (w7.setRow b0 #[.slice A0 n0 c0, .slice A1 n1 c1, .slice A2 n2 c2, .string q3, .string q4, .slice A5 n5 c5, .slice A6 n6 c6]) b0 29 #[.slice A0 n0 c0, .slice A1 n1 c1, .slice A2 n2 c2, .string q3, .string q4, .slice A5 n5 c5, .slice A6 n6 c6]) := Blk.row (show Blk w7 b0 29 #[.slice none 0 0, .slice none 0 0, .slice none 0 0, .string ⟨#[]⟩, .string ⟨#[]⟩, .slice none 0 0, .slice none 0 0] from hK7.out) _
                      have HBF : Hid (Below w.heap.size w (w7.setRow b0 #[.slice A0 n0 c0, .slice A1 n1 c1, .slice A2 n2 c2, .string q3, .string q4, .slice A5 n5 c5, .slice A6 n6 c6])) := below_setRow HL7.out (by rw [hb0.out]; exact Nat.le_refl _) _
                      have HDF : Hid (DrvAt (w7.setRow b0 #[.slice A0 n0 c0, .slice A1 n1 c1, .slice A2 n2 c2, .string q3, .string q4, .slice A5 n5 c5, .slice A6 n6 c6]) d ⟨A0, A1, A2, A5, A6, c0, c1, c2, c5, c6⟩) := (HD7.out.keptW (kept_row b0 w7 #[.slice A0 n0 c0, .slice A1 n1 c1, .slice A2 n2 c2, .string q3, .string q4, .slice A5 n5 c5, .slice A6 n6 c6])).unwipe
                      have hpg := Lib.hid (parsed_good hsmall.out hpd.out (her.out.trans he0))
                      subst he0
                      go_wp2_with (first
                        | refine wpList_load_row rfl 29 (.tmp 5) rfl b5 rfl 29 #[.slice A0 n0 c0, .slice A1 n1 c1, .slice A2 n2 c2, .string q3, .string q4, .slice A5 n5 c5, .slice A6 n6 c6] (0, 0) _ hK57.out Tryd.underlying29 rfl (by kernel_rfl) ?_
                        | refine wpList_store_row rfl 29 (.tmp 2) (.tmp 143) rfl b0 #[.slice A0 n0 c0, .slice A1 n1 c1, .slice A2 n2 c2, .string q3, .string q4, .slice A5 n5 c5, .slice A6 n6 c6] rfl rfl 29 _ hK7.out (by kernel_rfl) rfl (by simp [Value.oneCell']) ?_
                        | fail)
                      first
                        | refine bodyPost_ret (results_row_tmp rfl _ _ b0 29 #[.slice A0 n0 c0, .slice A1 n1 c1, .slice A2 n2 c2, .string q3, .string q4, .slice A5 n5 c5, .slice A6 n6 c6] (0, 0) _ rfl HBf.out Tryd.underlying29 rfl (by kernel_rfl)) rfl ?_
                        | refine bodyPost_end (results_row_tmp rfl _ _ b0 29 #[.slice A0 n0 c0, .slice A1 n1 c1, .slice A2 n2 c2, .string q3, .string q4, .slice A5 n5 c5, .slice A6 n6 c6] (0, 0) _ rfl HBf.out Tryd.underlying29 rfl (by kernel_rfl)) rfl ?_
                      exact parse_ret HCS.out hpg.out HDF.out HBF.out
                    · have hpb := Lib.hid (parsed_bad hsmall.out hpd.out (fun e => he0 (her.out.symm.trans e)))
                      rw [her.out] at hpb
                      have d2 : (er == 0) = false := by simpa using he0
                      have HBf : Hid (Blk (w7.setRow b0 #[.slice none 0 0, .slice none 0 0, .slice none 0 0, .string ⟨#[]⟩, .string ⟨#[]⟩, .slice none 0 0, .slice none 0 0]) b0 29 #[.slice none 0 0, .slice none 0 0, .slice none 0 0, .string ⟨#[]⟩, .string ⟨#[]⟩, .slice none 0 0, .slice none 0 0]) := Blk.row (show Blk w7 b0 29 #[.slice none 0 0, .slice none 0 0, .slice none 0 0, .string ⟨#[]⟩, .string ⟨#[]⟩, .slice none 0 0, .slice none 0 0] from hK7.out) _
                      have HBF : Hid (Below w.heap.size w (w7.setRow b0 #[.slice none 0 0, .slice none 0 0, .slice none 0 0, .string ⟨#[]⟩, .string ⟨#[]⟩, .slice none 0 0, .slice none 0 0])) := below_setRow HL7.out (by rw [hb0.out]; exact Nat.le_refl _) _
                      go_wp2_with (first
                        | refine wpList_store_row rfl 29 (.tmp 2) (.tmp 141) rfl b0 #[.slice none 0 0, .slice none 0 0, .slice none 0 0, .string ⟨#[]⟩, .string ⟨#[]⟩, .slice none 0 0, .slice none 0 0] rfl rfl 29 _ hK7.out (by kernel_rfl) rfl (by simp [Value.oneCell']) ?_
                        | fail)
                      first
                        | refine bodyPost_ret (results_row_tmp rfl _ _ b0 29 #[.slice none 0 0, .slice none 0 0, .slice none 0 0, .string ⟨#[]⟩, .string ⟨#[]⟩, .slice none 0 0, .slice none 0 0] (0, 0) _ rfl HBf.out Tryd.underlying29 rfl (by kernel_rfl)) rfl ?_
                        | refine bodyPost_end (results_row_tmp rfl _ _ b0 29 #[.slice none 0 0, .slice none 0 0, .slice none 0 0, .string ⟨#[]⟩, .string ⟨#[]⟩, .slice none 0 0, .slice none 0 0] (0, 0) _ rfl HBf.out Tryd.underlying29 rfl (by kernel_rfl)) rfl ?_
                      exact parse_ret (d := emptyD) (a := nilA) rfl hpb.out (empty_at _) HBF.out
end Go.Proofs.YtbldognffppeiaaDoor
