/- awake: walk. -/
import Derived.Test.YtlifghomejdhnaaDoorNear
set_option linter.unusedVariables false
set_option linter.unusedSimpArgs false
namespace Go.Proofs.YtlifghomejdhnaaDoor
open Go.RowKit Go.Shelf Go.Proofs.YtlifghomejdhnaaDoorW.PrintWords Go.Proofs.YtlifghomejdhnaaDoorW.PrintLast Go.Proofs.YtlifghomejdhnaaDoor.Q Go.Proofs.YtlifghomejdhnaaDoor.Gf

theorem enc1 (w : World) (g : Nat) (hp : PW w) (hr : Kd.C (Kd.int .u8) w (some ⟨g, 0, none⟩) 1 (ns [gOf 1])) :
    Calls Tryd.prog 14 #[.slice (some ⟨g, 0, none⟩) 1 1] w fun e w' => ∃ g c, e = .returned (.tuple #[.slice (some ⟨g, 0, none⟩) 5 c, .int .i64 0]) ∧ 5 ≤ c ∧ CRow (Value.int .u8) 0 w' g (ns good5) ∧ Below w.heap.size w w' := by
  refine (Encode_ok (some ⟨g, 0, none⟩) 1 [gOf 1] w hp hr (by decide) (by decide) (by decide)).mono ?_
  rintro e w' ⟨g, c, rfl, h1, h2, R, hl, ht, hc, hr, hb⟩
  have := enc_one hl ht hc
  subst this
  exact ⟨g, c, rfl, h2, hr, hb⟩
theorem dec1 (w : World) (g : Nat) (hp : PW w) (hr : Kd.C (Kd.int .u8) w (some ⟨g, 0, none⟩) 5 (ns bad5)) :
    Calls Tryd.prog 23 #[.slice (some ⟨g, 0, none⟩) 5 5, .slice none 0 0] w fun e w' => ∃ g c AE cE, e = .returned (.tuple #[.agg #[.slice (some ⟨g, 0, none⟩) 5 c, .slice AE 2 cE], .int .i64 0]) ∧ 5 ≤ c ∧ 2 ≤ cE ∧ CRow (Value.int .u8) 0 w' g (ns good5) ∧ Kd.C (Kd.int .i64) w' AE 2 (is [0, 1]) ∧ Below w.heap.size w w' := by
  have h := Dec_near (some ⟨g, 0, none⟩) 5 bad5 none 0 [] good5 w hp hr (by decide) (by decide) (by decide) (Kd.C_nil _ _) (by decide) (by decide) (by decide) (by decide) near_a
  rw [err_a] at h
  refine Calls.mono (show Calls _ _ #[.slice (some ⟨g, 0, none⟩) 5 5, .slice none 0 0] w _ from h) ?_
  rintro e w' ⟨g, c, AE, cE, rfl, h1, h2, _, h3, h4, h5⟩
  exact ⟨g, c, AE, cE, rfl, h1, h2, h3, h4, h5⟩
theorem dec2 (w : World) (g h : Nat) (hp : PW w) (hr : Kd.C (Kd.int .u8) w (some ⟨g, 0, none⟩) 5 (ns nine5)) (hr1 : Kd.C (Kd.int .i64) w (some ⟨h, 0, none⟩) 4 (is [0, 1, 2, 3])) :
    Calls Tryd.prog 23 #[.slice (some ⟨g, 0, none⟩) 5 5, .slice (some ⟨h, 0, none⟩) 4 4] w fun e w' => ∃ g c AE cE, e = .returned (.tuple #[.agg #[.slice (some ⟨g, 0, none⟩) 5 c, .slice AE 0 cE], .int .i64 0]) ∧ 5 ≤ c ∧ CRow (Value.int .u8) 0 w' g (ns good5) ∧ Below w.heap.size w w' := by
  have h := Dec_near (some ⟨g, 0, none⟩) 5 nine5 (some ⟨h, 0, none⟩) 4 [0, 1, 2, 3] good5 w hp hr (by decide) (by decide) (by decide) hr1 (by decide) (by decide) (by decide) (by decide) near_b
  rw [err_b] at h
  refine Calls.mono (show Calls _ _ #[.slice (some ⟨g, 0, none⟩) 5 5, .slice (some ⟨_, 0, none⟩) 4 4] w _ from h) ?_
  rintro e w' ⟨g, c, AE, cE, rfl, h1, h2, _, h3, h4, h5⟩
  exact ⟨g, c, AE, cE, rfl, h1, h3, h5⟩
theorem dec3 (w : World) (g : Nat) (hp : PW w) (hr : Kd.C (Kd.int .u8) w (some ⟨g, 0, none⟩) 5 (ns one5)) :
    Calls Tryd.prog 23 #[.slice (some ⟨g, 0, none⟩) 5 5, .slice none 0 0] w fun e w' => ∃ g c AE cE, e = .returned (.tuple #[.agg #[.slice (some ⟨g, 0, none⟩) 5 c, .slice AE 1 cE], .int .i64 0]) ∧ 5 ≤ c ∧ 1 ≤ cE ∧ CRow (Value.int .u8) 0 w' g (ns zero5) ∧ Kd.C (Kd.int .i64) w' AE 1 (is [0]) ∧ Below w.heap.size w w' := by
  have h := Dec_near (some ⟨g, 0, none⟩) 5 one5 none 0 [] zero5 w hp hr (by decide) (by decide) (by decide) (Kd.C_nil _ _) (by decide) (by decide) (by decide) (by decide) near_c
  rw [err_c] at h
  refine Calls.mono (show Calls _ _ #[.slice (some ⟨g, 0, none⟩) 5 5, .slice none 0 0] w _ from h) ?_
  rintro e w' ⟨g, c, AE, cE, rfl, h1, h2, _, h3, h4, h5⟩
  exact ⟨g, c, AE, cE, rfl, h1, h2, h3, h4, h5⟩
theorem syn1 (w : World) (g : Nat) (hp : PW w) (hr : Kd.C (Kd.int .u8) w (some ⟨g, 0, none⟩) 5 (ns one5)) :
    Calls Tryd.prog 15 #[.slice (some ⟨g, 0, none⟩) 5 5] w fun e w' => ∃ g, e = .returned (.tuple #[.slice (some ⟨g, 0, none⟩) 4 4, .int .i64 0]) ∧ CRow (Value.int .u8) 0 w' g (ns (synL one5)) ∧ Below w.heap.size w w' := by
  refine (Synd_ok (some ⟨g, 0, none⟩) 5 one5 w hp hr (by decide) (by decide) (by decide)).mono ?_
  rintro e w' ⟨g, _, rfl, h1, h2⟩
  exact ⟨g, rfl, h1, h2⟩
theorem below_al (w : World) (o : Obj) : Below w.heap.size w (w.alloc o) := (Below.refl _ w).alloc (Nat.le_refl _) o
set_option maxHeartbeats 8000000 in
set_option maxRecDepth 1000000 in
theorem awake_any (w : World) (hp : PW w) : Calls Tryd.prog 12 #[] w fun e w' => e = .returned (.bool true) ∧ Below w.heap.size w w' := by
  obtain ⟨wa, hwa⟩ : ∃ wa, w.alloc (.cells #[.int .u8 1] 5) = wa := ⟨_, rfl⟩
  have hba : Below w.heap.size w wa := by rw [← hwa]; exact below_al w _
  have HE := Aside0.mk (enc1 wa w.heap.size (hp.below hba) (by rw [← hwa]; exact lit_reads w .u8 5 (ns [gOf 1]) _ rfl 1 rfl (by omega)))
  have HBW := Aside0.mk hba
  have HP := Aside0.mk hp
  clear hba hp
  go_enter Tryd.func12, Tryd.ntmps12
  go_wp2_with fail
  refine HE.out.mono ?_
  rintro e w1 ⟨gw, cw, rfl, hcw, hrw, hb1⟩
  have HRW := Aside0.mk hrw
  have HB1 := Aside0.mk (HBW.out.trans (hb1.mono HBW.out.size))
  clear hrw hb1 HE hwa HBW
  obtain ⟨wb, hwb⟩ : ∃ wb, w1.alloc (.cells #[.int .u8 0, .int .u8 0, .int .u8 29, .int .u8 17, .int .u8 48] 5) = wb := ⟨_, rfl⟩
  have hbb : Below w1.heap.size w1 wb := by rw [← hwb]; exact below_al w1 _
  have HBb := Aside0.mk (HB1.out.trans (hbb.mono HB1.out.size))
  have HE := Aside0.mk (dec1 wb w1.heap.size (HP.out.below HBb.out) (by rw [← hwb]; exact lit_reads w1 .u8 5 (ns bad5) _ rfl 5 rfl (by omega)))
  replace HRW := Aside0.mk (HRW.out.below hbb)
  clear hbb HB1
  go_wp2_with fail
  refine HE.out.mono ?_
  rintro e w2 ⟨ga, ca, EA, ka, rfl, hca, hka, hra, hea, hb2⟩
  obtain ⟨wc, hwc⟩ : ∃ wc, w2.alloc (.cells #[.slice (some ⟨ga, 0, none⟩) 5 ca, .slice EA 2 ka] 39) = wc := ⟨_, rfl⟩
  have hbc : Below w2.heap.size w2 wc := by rw [← hwc]; exact below_al w2 _
  have HF1 := Aside0.mk (show wc.heap[w2.heap.size]? = some (.cells #[.slice (some ⟨ga, 0, none⟩) 5 ca, .slice EA 2 ka] 39 (0, 0)) by rw [← hwc]; exact heap_alloc_new w2 _)
  replace HRW := Aside0.mk ((HRW.out.below hb2).below hbc)
  have HRA := Aside0.mk (hra.below hbc)
  have HEA := Aside0.mk (Kd.C_below hea hbc)
  have HBc := Aside0.mk ((HBb.out.trans (hb2.mono HBb.out.size)).trans (hbc.mono (Nat.le_trans HBb.out.size hb2.size)))
  clear hra hea hb2 hbc HE hwb HBb
  obtain ⟨wd, hwd⟩ : ∃ wd, wc.alloc (.cells #[.int .u8 9, .int .u8 9, .int .u8 9, .int .u8 9, .int .u8 48] 5) = wd := ⟨_, rfl⟩
  obtain ⟨we, hwe⟩ : ∃ we, wd.alloc (.cells #[.int .i64 0, .int .i64 1, .int .i64 2, .int .i64 3] 3) = we := ⟨_, rfl⟩
  have hbd : Below wc.heap.size wc wd := by rw [← hwd]; exact below_al wc _
  have hbe : Below wd.heap.size wd we := by rw [← hwe]; exact below_al wd _
  have hbce := hbd.trans (hbe.mono hbd.size)
  have HBe := Aside0.mk (HBc.out.trans (hbce.mono HBc.out.size))
  have HE := Aside0.mk (dec2 we wc.heap.size wd.heap.size (HP.out.below HBe.out) (Kd.C_below (by rw [← hwd]; exact lit_reads wc .u8 5 (ns nine5) _ rfl 5 rfl (by omega)) hbe) (by rw [← hwe]; exact lit_reads wd .i64 3 (is [0, 1, 2, 3]) _ rfl 4 rfl (by omega)))
  replace HRW := Aside0.mk (HRW.out.below hbce)
  replace HRA := Aside0.mk (HRA.out.below hbce)
  replace HEA := Aside0.mk (Kd.C_below HEA.out hbce)
  replace HF1 := Aside0.mk (blk_below HF1.out hbce)
  clear hbd hbe hbce HBc
  go_wp2_with fail
  refine HE.out.mono ?_
  rintro e w3 ⟨gb, cb, EB, kb, rfl, hcb, hrb, hb3⟩
  obtain ⟨wf, hwf⟩ : ∃ wf, w3.alloc (.cells #[.slice (some ⟨gb, 0, none⟩) 5 cb, .slice EB 0 kb] 39) = wf := ⟨_, rfl⟩
  have hbwf : Below w3.heap.size w3 wf := by rw [← hwf]; exact below_al w3 _
  have hb3f := hb3.trans (hbwf.mono hb3.size)
  replace HRW := Aside0.mk (HRW.out.below hb3f)
  replace HRA := Aside0.mk (HRA.out.below hb3f)
  replace HEA := Aside0.mk (Kd.C_below HEA.out hb3f)
  replace HF1 := Aside0.mk (blk_below HF1.out hb3f)
  have HRB := Aside0.mk (hrb.below hbwf)
  have HF2 := Aside0.mk (show wf.heap[w3.heap.size]? = some (.cells #[.slice (some ⟨gb, 0, none⟩) 5 cb, .slice EB 0 kb] 39 (0, 0)) by rw [← hwf]; exact heap_alloc_new w3 _)
  have HBf := Aside0.mk (HBe.out.trans (hb3f.mono HBe.out.size))
  clear hrb hb3 hbwf hb3f HE HBe
  obtain ⟨wg, hwg⟩ : ∃ wg, wf.alloc (.cells #[.int .u8 1, .int .u8 0, .int .u8 0, .int .u8 0, .int .u8 0] 5) = wg := ⟨_, rfl⟩
  have hbwg : Below wf.heap.size wf wg := by rw [← hwg]; exact below_al wf _
  have HBg := Aside0.mk (HBf.out.trans (hbwg.mono HBf.out.size))
  replace HRW := Aside0.mk (HRW.out.below hbwg)
  replace HRA := Aside0.mk (HRA.out.below hbwg)
  replace HEA := Aside0.mk (Kd.C_below HEA.out hbwg)
  replace HF1 := Aside0.mk (blk_below HF1.out hbwg)
  replace HRB := Aside0.mk (HRB.out.below hbwg)
  replace HF2 := Aside0.mk (blk_below HF2.out hbwg)
  have HE := Aside0.mk (syn1 wg wf.heap.size (HP.out.below HBg.out) (by rw [← hwg]; exact lit_reads wf .u8 5 (ns one5) _ rfl 5 rfl (by omega)))
  clear hbwg HBf
  go_wp2_with fail
  refine HE.out.mono ?_
  rintro e w4 ⟨gs, rfl, hrs, hb4⟩
  replace HRW := Aside0.mk (HRW.out.below hb4)
  replace HRA := Aside0.mk (HRA.out.below hb4)
  replace HEA := Aside0.mk (Kd.C_below HEA.out hb4)
  replace HF1 := Aside0.mk (blk_below HF1.out hb4)
  replace HRB := Aside0.mk (HRB.out.below hb4)
  replace HF2 := Aside0.mk (blk_below HF2.out hb4)
  have HRS := Aside0.mk hrs
  have HB4 := Aside0.mk (HBg.out.trans (hb4.mono HBg.out.size))
  clear hrs hb4 HE HBg
  obtain ⟨wh, hwh⟩ : ∃ wh, w4.alloc (.cells #[.int .u8 1, .int .u8 0, .int .u8 0, .int .u8 0, .int .u8 0] 5) = wh := ⟨_, rfl⟩
  have hbwh : Below w4.heap.size w4 wh := by rw [← hwh]; exact below_al w4 _
  have HBh := Aside0.mk (HB4.out.trans (hbwh.mono HB4.out.size))
  replace HRW := Aside0.mk (HRW.out.below hbwh)
  replace HRA := Aside0.mk (HRA.out.below hbwh)
  replace HEA := Aside0.mk (Kd.C_below HEA.out hbwh)
  replace HF1 := Aside0.mk (blk_below HF1.out hbwh)
  replace HRB := Aside0.mk (HRB.out.below hbwh)
  replace HF2 := Aside0.mk (blk_below HF2.out hbwh)
  replace HRS := Aside0.mk (HRS.out.below hbwh)
  have HE := Aside0.mk (dec3 wh w4.heap.size (HP.out.below HBh.out) (by rw [← hwh]; exact lit_reads w4 .u8 5 (ns one5) _ rfl 5 rfl (by omega)))
  clear hbwh HB4
  go_wp2_with fail
  refine HE.out.mono ?_
  rintro e w5 ⟨gc, cc, EC, kc, rfl, hcc, hkc, hrc, hec, hb5⟩
  obtain ⟨wi, hwi⟩ : ∃ wi, w5.alloc (.cells #[.slice (some ⟨gc, 0, none⟩) 5 cc, .slice EC 1 kc] 39) = wi := ⟨_, rfl⟩
  have hbwi : Below w5.heap.size w5 wi := by rw [← hwi]; exact below_al w5 _
  have hb5i := hb5.trans (hbwi.mono hb5.size)
  replace HRW := Aside0.mk (HRW.out.below hb5i)
  replace HRA := Aside0.mk (HRA.out.below hb5i)
  replace HEA := Aside0.mk (Kd.C_below HEA.out hb5i)
  replace HF1 := Aside0.mk (blk_below HF1.out hb5i)
  replace HRB := Aside0.mk (HRB.out.below hb5i)
  replace HF2 := Aside0.mk (blk_below HF2.out hb5i)
  replace HRS := Aside0.mk (HRS.out.below hb5i)
  have HRC := Aside0.mk (hrc.below hbwi)
  have HEC := Aside0.mk (Kd.C_below hec hbwi)
  have HF3 := Aside0.mk (show wi.heap[w5.heap.size]? = some (.cells #[.slice (some ⟨gc, 0, none⟩) 5 cc, .slice EC 1 kc] 39 (0, 0)) by rw [← hwi]; exact heap_alloc_new w5 _)
  have HBi := Aside0.mk (HBh.out.trans (hb5i.mono HBh.out.size))
  clear hrc hec hb5 hbwi hb5i HE HBh
  obtain ⟨wj, hwj⟩ : ∃ wj, wi.alloc (.cells #[.int .u8 1, .int .u8 30, .int .u8 29, .int .u8 17, .int .u8 48] 5) = wj := ⟨_, rfl⟩
  have hbwj : Below wi.heap.size wi wj := by rw [← hwj]; exact below_al wi _
  have HBj := Aside0.mk (HBi.out.trans (hbwj.mono HBi.out.size))
  replace HRW := Aside0.mk (HRW.out.below hbwj)
  replace HRA := Aside0.mk (HRA.out.below hbwj)
  replace HEA := Aside0.mk (Kd.C_below HEA.out hbwj)
  replace HF1 := Aside0.mk (blk_below HF1.out hbwj)
  replace HRB := Aside0.mk (HRB.out.below hbwj)
  replace HF2 := Aside0.mk (blk_below HF2.out hbwj)
  replace HRS := Aside0.mk (HRS.out.below hbwj)
  replace HRC := Aside0.mk (HRC.out.below hbwj)
  replace HEC := Aside0.mk (Kd.C_below HEC.out hbwj)
  replace HF3 := Aside0.mk (blk_below HF3.out hbwj)
  have HRG := Aside0.mk (show Kd.C (Kd.int .u8) wj (some ⟨wi.heap.size, 0, none⟩) 5 (ns good5) by rw [← hwj]; exact lit_reads wi .u8 5 (ns good5) _ rfl 5 rfl (by omega))
  clear hbwj HBi
  go_wp2_with fail
  clear hwc hwd hwe hwf hwg hwh hwi hwj
  obtain ⟨f1, hf1⟩ : ∃ f1, w2.heap.size = f1 := ⟨_, rfl⟩
  obtain ⟨f2, hf2⟩ : ∃ f2, w3.heap.size = f2 := ⟨_, rfl⟩
  obtain ⟨f3, hf3⟩ : ∃ f3, w5.heap.size = f3 := ⟨_, rfl⟩
  obtain ⟨gg, hgg⟩ : ∃ gg, wi.heap.size = gg := ⟨_, rfl⟩
  rw [hf1, hf2, hf3, hgg]
  rw [hf1] at HF1
  rw [hf2] at HF2
  rw [hf3] at HF3
  rw [hgg] at HRG
  clear hf1 hf2 hf3 hgg
  obtain ⟨wd, hwd⟩ : ∃ wd, wj.drew = wd := ⟨_, rfl⟩
  have hbd : Below wj.heap.size wj wd := by rw [← hwd]; exact (Below.refl _ wj).drew
  replace HRW := Aside0.mk (HRW.out.below hbd)
  replace HRA := Aside0.mk (HRA.out.below hbd)
  replace HEA := Aside0.mk (Kd.C_below HEA.out hbd)
  replace HF1 := Aside0.mk (blk_below HF1.out hbd)
  replace HRB := Aside0.mk (HRB.out.below hbd)
  replace HF2 := Aside0.mk (blk_below HF2.out hbd)
  replace HRS := Aside0.mk (HRS.out.below hbd)
  replace HRC := Aside0.mk (HRC.out.below hbd)
  replace HEC := Aside0.mk (Kd.C_below HEC.out hbd)
  replace HF3 := Aside0.mk (blk_below HF3.out hbd)
  replace HRG := Aside0.mk (Kd.C_below HRG.out hbd)
  have HBJ := Aside0.mk (HBj.out.trans (hbd.mono HBj.out.size))
  have HB0 := Aside0.mk (Below.refl wd.heap.size wd)
  have HF0' : Aside0 (∀ W', Below wd.heap.size wd W' → W'.cell? ⟨f1, 0, none⟩ = some (.slice (some ⟨ga, 0, none⟩) 5 ca)) := ⟨fun W' hb => by have := blk_below HF1.out hb; unfold World.cell?; rw [this]; simp⟩
  have HF1' : Aside0 (∀ W', Below wd.heap.size wd W' → W'.cell? ⟨f1, 1, none⟩ = some (.slice EA 2 ka)) := ⟨fun W' hb => by have := blk_below HF1.out hb; unfold World.cell?; rw [this]; simp⟩
  have HF2' : Aside0 (∀ W', Below wd.heap.size wd W' → W'.cell? ⟨f2, 0, none⟩ = some (.slice (some ⟨gb, 0, none⟩) 5 cb)) := ⟨fun W' hb => by have := blk_below HF2.out hb; unfold World.cell?; rw [this]; simp⟩
  have HF3' : Aside0 (∀ W', Below wd.heap.size wd W' → W'.cell? ⟨f2, 1, none⟩ = some (.slice EB 0 kb)) := ⟨fun W' hb => by have := blk_below HF2.out hb; unfold World.cell?; rw [this]; simp⟩
  have HF4' : Aside0 (∀ W', Below wd.heap.size wd W' → W'.cell? ⟨f3, 0, none⟩ = some (.slice (some ⟨gc, 0, none⟩) 5 cc)) := ⟨fun W' hb => by have := blk_below HF3.out hb; unfold World.cell?; rw [this]; simp⟩
  have HF5' : Aside0 (∀ W', Below wd.heap.size wd W' → W'.cell? ⟨f3, 1, none⟩ = some (.slice EC 1 kc)) := ⟨fun W' hb => by have := blk_below HF3.out hb; unfold World.cell?; rw [this]; simp⟩
  have HC13 : Aside0 (∀ W', Below wd.heap.size wd W' → Calls Tryd.prog 11 #[.slice (some ⟨gw, 0, none⟩) 5 cw, .slice (some ⟨gg, 0, none⟩) 5 5] W' fun e w' => e = .returned (.bool true) ∧ Drawn0 W' w') := ⟨fun W' hb => letterbagkit_SameBytes.calls 70 (some ⟨gw, 0, none⟩) cw (ns good5) (some ⟨gg, 0, none⟩) 5 (ns good5) true W' ((HRW.out.below hb).reads (by decide)) hcw (Kd.C_below HRG.out hb) (by decide) same_a⟩
  have HC19 : Aside0 (∀ W', Below wd.heap.size wd W' → Calls Tryd.prog 11 #[.slice (some ⟨ga, 0, none⟩) 5 ca, .slice (some ⟨gg, 0, none⟩) 5 5] W' fun e w' => e = .returned (.bool true) ∧ Drawn0 W' w') := ⟨fun W' hb => letterbagkit_SameBytes.calls 70 (some ⟨ga, 0, none⟩) ca (ns good5) (some ⟨gg, 0, none⟩) 5 (ns good5) true W' ((HRA.out.below hb).reads (by decide)) hca (Kd.C_below HRG.out hb) (by decide) same_a⟩
  have HC25 : Aside0 (∀ W', Below wd.heap.size wd W' → Calls Tryd.prog 24 #[.slice EA 2 ka, .slice (some ⟨W'.heap.size, 0, none⟩) 2 2] (W'.alloc (.cells #[.int .i64 0, .int .i64 1] 3)) fun e w' => e = .returned (.bool true) ∧ Drawn0 (W'.alloc (.cells #[.int .i64 0, .int .i64 1] 3)) w') := ⟨fun W' hb => letterbagkit_SameInts.calls 70 EA ka (is [0, 1]) (some ⟨W'.heap.size, 0, none⟩) 2 [0, 1] true _ (Kd.C_below HEA.out (hb.trans ((below_al W' _).mono hb.size))) hka (lit_reads W' .i64 3 [0, 1] _ rfl 2 rfl (by omega)) (by decide) same_e⟩
  have HC31 : Aside0 (∀ W', Below wd.heap.size wd W' → Calls Tryd.prog 11 #[.slice (some ⟨gb, 0, none⟩) 5 cb, .slice (some ⟨gg, 0, none⟩) 5 5] W' fun e w' => e = .returned (.bool true) ∧ Drawn0 W' w') := ⟨fun W' hb => letterbagkit_SameBytes.calls 70 (some ⟨gb, 0, none⟩) cb (ns good5) (some ⟨gg, 0, none⟩) 5 (ns good5) true W' ((HRB.out.below hb).reads (by decide)) hcb (Kd.C_below HRG.out hb) (by decide) same_a⟩
  have HC42 : Aside0 (∀ W', Below wd.heap.size wd W' → Calls Tryd.prog 11 #[.slice (some ⟨gs, 0, none⟩) 4 4, .slice (some ⟨W'.heap.size, 0, none⟩) 4 4] (W'.alloc (.cells #[.int .u8 16, .int .u8 12, .int .u8 5, .int .u8 19] 5)) fun e w' => e = .returned (.bool true) ∧ Drawn0 (W'.alloc (.cells #[.int .u8 16, .int .u8 12, .int .u8 5, .int .u8 19] 5)) w') := ⟨fun W' hb => letterbagkit_SameBytes.calls 70 (some ⟨gs, 0, none⟩) 4 (ns (synL one5)) (some ⟨W'.heap.size, 0, none⟩) 4 [16, 12, 5, 19] true _ ((HRS.out.below (hb.trans ((below_al W' _).mono hb.size))).reads (by decide)) (by decide) (lit_reads W' .u8 5 [16, 12, 5, 19] _ rfl 4 rfl (by omega)) (by decide) same_d⟩
  have HC48 : Aside0 (∀ W', Below wd.heap.size wd W' → Calls Tryd.prog 11 #[.slice (some ⟨gc, 0, none⟩) 5 cc, .slice (some ⟨W'.heap.size, 0, none⟩) 5 5] (W'.alloc (.cells (madeCells #[.int .u8 0] 5) 5)) fun e w' => e = .returned (.bool true) ∧ Drawn0 (W'.alloc (.cells (madeCells #[.int .u8 0] 5) 5)) w') := ⟨fun W' hb => letterbagkit_SameBytes.calls 70 (some ⟨gc, 0, none⟩) cc (ns zero5) (some ⟨W'.heap.size, 0, none⟩) 5 [0, 0, 0, 0, 0] true _ ((HRC.out.below (hb.trans ((below_al W' _).mono hb.size))).reads (by decide)) hcc ((CRow.made (Value.int .u8) (0 : Int) W' 5 5).reads (by decide)) (by decide) same_z⟩
  have HC54 : Aside0 (∀ W', Below wd.heap.size wd W' → Calls Tryd.prog 24 #[.slice EC 1 kc, .slice (some ⟨W'.heap.size, 0, none⟩) 1 1] (W'.alloc (.cells #[.int .i64 0] 3)) fun e w' => e = .returned (.bool true) ∧ Drawn0 (W'.alloc (.cells #[.int .i64 0] 3)) w') := ⟨fun W' hb => letterbagkit_SameInts.calls 70 EC kc (is [0]) (some ⟨W'.heap.size, 0, none⟩) 1 [0] true _ (Kd.C_below HEC.out (hb.trans ((below_al W' _).mono hb.size))) hkc (lit_reads W' .i64 3 [0] _ rfl 1 rfl (by omega)) (by decide) same_f⟩
  have hmk : ∀ W : World, (Instr.makeSlice 22 (.int .i64 5) (.int .i64 5)).run Tryd.prog W = .ok (.slice (some ⟨W.heap.size, 0, none⟩) 5 5) (W.alloc (.cells (madeCells #[.int .u8 0] 5) 5)) :=
    fun W => run_make_row' 22 5 (.int .u8 0) 1 Tryd.underlying22 info_u8 rfl .i64 .i64 5 (by omega) (by omega) W
  clear HF1 HF2 HF3 HRW HRA HRB HRC HRS HRG HEA HEC hbd HBj
  have p0 : wj.drew.cell? ⟨f1, 0, none⟩ = some (.slice (some ⟨ga, 0, none⟩) 5 ca) := by rw [hwd]; exact HF0'.out _ HB0.out
  have p1 : wj.drew.cell? ⟨f1, 1, none⟩ = some (.slice EA 2 ka) := by rw [hwd]; exact HF1'.out _ HB0.out
  have p2 : wj.drew.cell? ⟨f2, 0, none⟩ = some (.slice (some ⟨gb, 0, none⟩) 5 cb) := by rw [hwd]; exact HF2'.out _ HB0.out
  have p3 : wj.drew.cell? ⟨f2, 1, none⟩ = some (.slice EB 0 kb) := by rw [hwd]; exact HF3'.out _ HB0.out
  have p4 : wj.drew.cell? ⟨f3, 0, none⟩ = some (.slice (some ⟨gc, 0, none⟩) 5 cc) := by rw [hwd]; exact HF4'.out _ HB0.out
  have p5 : wj.drew.cell? ⟨f3, 1, none⟩ = some (.slice EC 1 kc) := by rw [hwd]; exact HF5'.out _ HB0.out
  have hz0 : wrap64 0 = 0 := by unfold wrap64; omega
  have hz1 : wrap64 (0 + 0) = 0 := by unfold wrap64; omega
  have hz2 : IntKind.i64.wrap 0 = 0 := by rw [IntKind.wrap_i64]; omega
  have hz3 : IntKind.i64.wrap (0 + 0) = 0 := by rw [IntKind.wrap_i64]; omega
  refine start_ (n := 57) (S := fun w' => w'.cell? ⟨f1, 0, none⟩ = some (.slice (some ⟨ga, 0, none⟩) 5 ca) ∧ w'.cell? ⟨f1, 1, none⟩ = some (.slice EA 2 ka) ∧ w'.cell? ⟨f2, 0, none⟩ = some (.slice (some ⟨gb, 0, none⟩) 5 cb) ∧ w'.cell? ⟨f2, 1, none⟩ = some (.slice EB 0 kb) ∧ w'.cell? ⟨f3, 0, none⟩ = some (.slice (some ⟨gc, 0, none⟩) 5 cc) ∧ w'.cell? ⟨f3, 1, none⟩ = some (.slice EC 1 kc)) (ds := []) #[false, false, false, false, false, false, false, false, false, false, false, false, false, false, false, false, false, false, false, false, false, false, false, false, false, false, false, false, false, false, false, false, false, false, false, false, false, false, false, false, false, false, false, false, false, false, false, false, false, false, false, false, false, false, false, false, false] (by kernel_rfl) rfl rfl ⟨p0, p1, p2, p3, p4, p5⟩ (fun hHeld => ?_)
  rw [hwd] at hHeld p0 p1 p2 p3 p4 p5 ⊢; clear hwd
  refine pure_ (i := 0) (N := some 39) (v := ?_) (a' := ?_) #[true, false, false, false, false, false, false, false, false, false, false, false, false, false, false, false, false, false, false, false, false, false, false, false, false, false, false, false, false, false, false, false, false, false, false, false, false, false, false, false, false, false, false, false, false, false, false, false, false, false, false, false, false, false, false, false, false] rfl rfl (by kernel_rfl) (fun _ _ _ h => h) (Or.inl ⟨by rfl, ?_⟩) ?_ ?_
  rotate_left
  · intro w'
    go_simp
    with_reducible rfl
  rotate_left
  · simp only [Act.put, List.setIfInBounds_toArray, List.set_cons_zero, List.set_cons_succ, i64_w, i32_w]
    rfl
  refine pure_ (i := 1) (N := some 40) (v := ?_) (a' := ?_) #[true, true, false, false, false, false, false, false, false, false, false, false, false, false, false, false, false, false, false, false, false, false, false, false, false, false, false, false, false, false, false, false, false, false, false, false, false, false, false, false, false, false, false, false, false, false, false, false, false, false, false, false, false, false, false, false, false] rfl rfl (by kernel_rfl) (fun _ _ _ h => h) (Or.inl ⟨by rfl, ?_⟩) ?_ ?_
  rotate_left
  · intro w'
    go_simp
    with_reducible rfl
  rotate_left
  · simp only [Act.put, List.setIfInBounds_toArray, List.set_cons_zero, List.set_cons_succ, i64_w, i32_w]
    rfl
  refine pure_ (i := 2) (N := some 41) (v := ?_) (a' := ?_) #[true, true, true, false, false, false, false, false, false, false, false, false, false, false, false, false, false, false, false, false, false, false, false, false, false, false, false, false, false, false, false, false, false, false, false, false, false, false, false, false, false, false, false, false, false, false, false, false, false, false, false, false, false, false, false, false, false] rfl rfl (by kernel_rfl) (fun _ _ _ h => h) (Or.inl ⟨by rfl, ?_⟩) ?_ ?_
  rotate_left
  · intro w'
    go_simp
    with_reducible rfl
  rotate_left
  · simp only [Act.put, List.setIfInBounds_toArray, List.set_cons_zero, List.set_cons_succ, i64_w, i32_w]
    rfl
  refine pure_ (i := 3) (N := some 42) (v := ?_) (a' := ?_) #[true, true, true, true, false, false, false, false, false, false, false, false, false, false, false, false, false, false, false, false, false, false, false, false, false, false, false, false, false, false, false, false, false, false, false, false, false, false, false, false, false, false, false, false, false, false, false, false, false, false, false, false, false, false, false, false, false] rfl rfl (by kernel_rfl) (fun _ _ _ h => h) (Or.inl ⟨by rfl, ?_⟩) ?_ ?_
  rotate_left
  · intro w'
    go_simp
    with_reducible rfl
  rotate_left
  · simp only [Act.put, List.setIfInBounds_toArray, List.set_cons_zero, List.set_cons_succ, i64_w, i32_w]
    rfl
  refine pure_ (i := 4) (N := some 43) (v := ?_) (a' := ?_) #[true, true, true, true, true, false, false, false, false, false, false, false, false, false, false, false, false, false, false, false, false, false, false, false, false, false, false, false, false, false, false, false, false, false, false, false, false, false, false, false, false, false, false, false, false, false, false, false, false, false, false, false, false, false, false, false, false] rfl rfl (by kernel_rfl) (fun _ _ _ h => h) (Or.inl ⟨by rfl, ?_⟩) ?_ ?_
  rotate_left
  · intro w'
    go_simp
    with_reducible rfl
  rotate_left
  · simp only [Act.put, List.setIfInBounds_toArray, List.set_cons_zero, List.set_cons_succ, i64_w, i32_w]
    rfl
  refine pure_ (i := 5) (N := some 44) (v := ?_) (a' := ?_) #[true, true, true, true, true, true, false, false, false, false, false, false, false, false, false, false, false, false, false, false, false, false, false, false, false, false, false, false, false, false, false, false, false, false, false, false, false, false, false, false, false, false, false, false, false, false, false, false, false, false, false, false, false, false, false, false, false] rfl rfl (by kernel_rfl) (fun _ _ _ h => h) (Or.inl ⟨by rfl, ?_⟩) ?_ ?_
  rotate_left
  · intro w'
    go_simp
    with_reducible rfl
  rotate_left
  · simp only [Act.put, List.setIfInBounds_toArray, List.set_cons_zero, List.set_cons_succ, i64_w, i32_w]
    rfl
  refine pure_ (i := 6) (N := some 45) (v := ?_) (a' := ?_) #[true, true, true, true, true, true, true, false, false, false, false, false, false, false, false, false, false, false, false, false, false, false, false, false, false, false, false, false, false, false, false, false, false, false, false, false, false, false, false, false, false, false, false, false, false, false, false, false, false, false, false, false, false, false, false, false, false] rfl rfl (by kernel_rfl) (fun _ _ _ h => h) (Or.inl ⟨by rfl, ?_⟩) ?_ ?_
  rotate_left
  · intro w'
    go_simp
    with_reducible rfl
  rotate_left
  · simp only [Act.put, List.setIfInBounds_toArray, List.set_cons_zero, List.set_cons_succ, i64_w, i32_w]
    rfl
  refine pure_ (i := 7) (N := some 46) (v := ?_) (a' := ?_) #[true, true, true, true, true, true, true, true, false, false, false, false, false, false, false, false, false, false, false, false, false, false, false, false, false, false, false, false, false, false, false, false, false, false, false, false, false, false, false, false, false, false, false, false, false, false, false, false, false, false, false, false, false, false, false, false, false] rfl rfl (by kernel_rfl) (fun _ _ _ h => h) (Or.inl ⟨by rfl, ?_⟩) ?_ ?_
  rotate_left
  · intro w'
    go_simp
    with_reducible rfl
  rotate_left
  · simp only [Act.put, List.setIfInBounds_toArray, List.set_cons_zero, List.set_cons_succ, i64_w, i32_w]
    rfl
  refine pure_ (i := 8) (N := some 47) (v := ?_) (a' := ?_) #[true, true, true, true, true, true, true, true, true, false, false, false, false, false, false, false, false, false, false, false, false, false, false, false, false, false, false, false, false, false, false, false, false, false, false, false, false, false, false, false, false, false, false, false, false, false, false, false, false, false, false, false, false, false, false, false, false] rfl rfl (by kernel_rfl) (fun _ _ _ h => h) (Or.inl ⟨by rfl, ?_⟩) ?_ ?_
  rotate_left
  · intro w'
    go_simp
    with_reducible rfl
  rotate_left
  · simp only [Act.put, List.setIfInBounds_toArray, List.set_cons_zero, List.set_cons_succ, i64_w, i32_w]
    rfl
  refine pure_ (i := 9) (N := some 48) (v := ?_) (a' := ?_) #[true, true, true, true, true, true, true, true, true, true, false, false, false, false, false, false, false, false, false, false, false, false, false, false, false, false, false, false, false, false, false, false, false, false, false, false, false, false, false, false, false, false, false, false, false, false, false, false, false, false, false, false, false, false, false, false, false] rfl rfl (by kernel_rfl) (fun _ _ _ h => h) (Or.inl ⟨by rfl, ?_⟩) ?_ ?_
  rotate_left
  · intro w'
    go_simp
    with_reducible rfl
  rotate_left
  · simp only [Act.put, List.setIfInBounds_toArray, List.set_cons_zero, List.set_cons_succ, i64_w, i32_w]
    rfl
  refine pure_ (i := 10) (N := some 49) (v := ?_) (a' := ?_) #[true, true, true, true, true, true, true, true, true, true, true, false, false, false, false, false, false, false, false, false, false, false, false, false, false, false, false, false, false, false, false, false, false, false, false, false, false, false, false, false, false, false, false, false, false, false, false, false, false, false, false, false, false, false, false, false, false] rfl rfl (by kernel_rfl) (fun _ _ _ h => h) (Or.inl ⟨by rfl, ?_⟩) ?_ ?_
  rotate_left
  · intro w'
    go_simp
    with_reducible rfl
  rotate_left
  · simp only [Act.put, List.setIfInBounds_toArray, List.set_cons_zero, List.set_cons_succ, i64_w, i32_w]
    rfl
  refine pure_ (i := 11) (N := some 50) (v := ?_) (a' := ?_) #[true, true, true, true, true, true, true, true, true, true, true, true, false, false, false, false, false, false, false, false, false, false, false, false, false, false, false, false, false, false, false, false, false, false, false, false, false, false, false, false, false, false, false, false, false, false, false, false, false, false, false, false, false, false, false, false, false] rfl rfl (by kernel_rfl) (fun _ _ _ h => h) (Or.inl ⟨by rfl, ?_⟩) ?_ ?_
  rotate_left
  · intro w'
    go_simp
    with_reducible rfl
  rotate_left
  · simp only [Act.put, List.setIfInBounds_toArray, List.set_cons_zero, List.set_cons_succ, i64_w, i32_w]
    rfl
  refine pure_ (i := 12) (N := some 51) (v := ?_) (a' := ?_) #[true, true, true, true, true, true, true, true, true, true, true, true, true, false, false, false, false, false, false, false, false, false, false, false, false, false, false, false, false, false, false, false, false, false, false, false, false, false, false, false, false, false, false, false, false, false, false, false, false, false, false, false, false, false, false, false, false] rfl rfl (by kernel_rfl) (fun _ _ _ h => h) (Or.inl ⟨by rfl, ?_⟩) ?_ ?_
  rotate_left
  · intro w'
    go_simp
    with_reducible rfl
  rotate_left
  · simp only [Act.put, List.setIfInBounds_toArray, List.set_cons_zero, List.set_cons_succ, i64_w, i32_w]
    rfl
  refine one_ (i := 13) (N := some 52) #[true, true, true, true, true, true, true, true, true, true, true, true, true, true, false, false, false, false, false, false, false, false, false, false, false, false, false, false, false, false, false, false, false, false, false, false, false, false, false, false, false, false, false, false, false, false, false, false, false, false, false, false, false, false, false, false, false] rfl rfl (by kernel_rfl) (by decide) (fun K hK => ?_)
  refine goes_ Tryd.func11 (by kernel_rfl) rfl #[.slice (some ⟨gw, 0, none⟩) 5 cw, .slice (some ⟨gg, 0, none⟩) 5 5] (by rfl) rfl rfl (by simp only [List.map_toArray, List.map_cons, List.map_nil]; rfl) ?_
  with_reducible refine (HC13.out _ HB0.out).mono ?_
  rintro e w13 ⟨rfl, hd13⟩
  refine ⟨_, rfl, ?_⟩
  have HB13 := Aside0.mk (HB0.out.trans (hd13.below.mono HB0.out.size))
  clear hd13
  have s13_0 := HF0'.out _ HB13.out
  have s13_1 := HF1'.out _ HB13.out
  have s13_2 := HF2'.out _ HB13.out
  have s13_3 := HF3'.out _ HB13.out
  have s13_4 := HF4'.out _ HB13.out
  have s13_5 := HF5'.out _ HB13.out
  refine hK.out _ _ ⟨s13_0, s13_1, s13_2, s13_3, s13_4, s13_5⟩ (fun hHeld => ?_)
  clear hK K
  refine norm_ (a' := ?_) ?_ ?_
  rotate_left
  · show Act.put _ (some 52) _ = _
    simp only [Act.put, List.setIfInBounds_toArray, List.set_cons_zero, List.set_cons_succ, i64_w, i32_w]
    rfl
  refine pure_ (i := 14) (N := some 53) (v := ?_) (a' := ?_) #[true, true, true, true, true, true, true, true, true, true, true, true, true, true, true, false, false, false, false, false, false, false, false, false, false, false, false, false, false, false, false, false, false, false, false, false, false, false, false, false, false, false, false, false, false, false, false, false, false, false, false, false, false, false, false, false, false] rfl rfl (by kernel_rfl) (fun _ _ _ h => h) (Or.inl ⟨by rfl, ?_⟩) ?_ ?_
  rotate_left
  · intro w'
    go_simp
    with_reducible rfl
  rotate_left
  · simp only [Act.put, List.setIfInBounds_toArray, List.set_cons_zero, List.set_cons_succ, i64_w, i32_w]
    rfl
  refine pure_ (i := 15) (N := some 54) (v := ?_) (a' := ?_) #[true, true, true, true, true, true, true, true, true, true, true, true, true, true, true, true, false, false, false, false, false, false, false, false, false, false, false, false, false, false, false, false, false, false, false, false, false, false, false, false, false, false, false, false, false, false, false, false, false, false, false, false, false, false, false, false, false] rfl rfl (by kernel_rfl) (fun _ _ _ h => h) (Or.inl ⟨by rfl, ?_⟩) ?_ ?_
  rotate_left
  · intro w'
    go_simp
    with_reducible rfl
  rotate_left
  · simp only [Act.put, List.setIfInBounds_toArray, List.set_cons_zero, List.set_cons_succ, i64_w, i32_w]
    rfl
  refine pure_ (i := 16) (N := some 55) (v := ?_) (a' := ?_) #[true, true, true, true, true, true, true, true, true, true, true, true, true, true, true, true, true, false, false, false, false, false, false, false, false, false, false, false, false, false, false, false, false, false, false, false, false, false, false, false, false, false, false, false, false, false, false, false, false, false, false, false, false, false, false, false, false] rfl rfl (by kernel_rfl) (fun _ _ _ h => h) (Or.inl ⟨by rfl, ?_⟩) ?_ ?_
  rotate_left
  · intro w'
    go_simp
    with_reducible rfl
  rotate_left
  · simp only [Act.put, List.setIfInBounds_toArray, List.set_cons_zero, List.set_cons_succ, i64_w, i32_w]
    rfl
  refine pure_ (i := 18) (N := some 57) (v := ?_) (a' := ?_) #[true, true, true, true, true, true, true, true, true, true, true, true, true, true, true, true, true, false, true, false, false, false, false, false, false, false, false, false, false, false, false, false, false, false, false, false, false, false, false, false, false, false, false, false, false, false, false, false, false, false, false, false, false, false, false, false, false] rfl rfl (by kernel_rfl) (fun _ _ _ h => h) (Or.inl ⟨by rfl, ?_⟩) ?_ ?_
  rotate_left
  · intro w'
    go_simp
    with_reducible rfl
  rotate_left
  · simp only [Act.put, List.setIfInBounds_toArray, List.set_cons_zero, List.set_cons_succ, i64_w, i32_w]
    rfl
  refine take_ (i := 17) (N := some 56) (v := ?_) (a' := ?_) #[true, true, true, true, true, true, true, true, true, true, true, true, true, true, true, true, true, true, true, false, false, false, false, false, false, false, false, false, false, false, false, false, false, false, false, false, false, false, false, false, false, false, false, false, false, false, false, false, false, false, false, false, false, false, false, false, false] rfl rfl (by kernel_rfl) (fun _ _ _ h => h) (Or.inl ⟨by rfl, ?_⟩) hHeld ?_ ?_
  rotate_left
  · rintro w' ⟨s0, s1, s2, s3, s4, s5⟩
    go_simp
    with_reducible rfl
  rotate_left
  · simp only [Act.put, List.setIfInBounds_toArray, List.set_cons_zero, List.set_cons_succ, i64_w, i32_w]
    rfl
  refine one_ (i := 19) (N := some 58) #[true, true, true, true, true, true, true, true, true, true, true, true, true, true, true, true, true, true, true, true, false, false, false, false, false, false, false, false, false, false, false, false, false, false, false, false, false, false, false, false, false, false, false, false, false, false, false, false, false, false, false, false, false, false, false, false, false] rfl rfl (by kernel_rfl) (by decide) (fun K hK => ?_)
  refine goes_ Tryd.func11 (by kernel_rfl) rfl #[.slice (some ⟨ga, 0, none⟩) 5 ca, .slice (some ⟨gg, 0, none⟩) 5 5] (by rfl) rfl rfl (by simp only [List.map_toArray, List.map_cons, List.map_nil]; rfl) ?_
  with_reducible refine (HC19.out _ HB13.out).mono ?_
  rintro e w19 ⟨rfl, hd19⟩
  refine ⟨_, rfl, ?_⟩
  have HB19 := Aside0.mk (HB13.out.trans (hd19.below.mono HB13.out.size))
  clear hd19
  have s19_0 := HF0'.out _ HB19.out
  have s19_1 := HF1'.out _ HB19.out
  have s19_2 := HF2'.out _ HB19.out
  have s19_3 := HF3'.out _ HB19.out
  have s19_4 := HF4'.out _ HB19.out
  have s19_5 := HF5'.out _ HB19.out
  refine hK.out _ _ ⟨s19_0, s19_1, s19_2, s19_3, s19_4, s19_5⟩ (fun hHeld => ?_)
  clear hK K
  refine norm_ (a' := ?_) ?_ ?_
  rotate_left
  · show Act.put _ (some 58) _ = _
    simp only [Act.put, List.setIfInBounds_toArray, List.set_cons_zero, List.set_cons_succ, i64_w, i32_w]
    rfl
  refine pure_ (i := 20) (N := some 59) (v := ?_) (a' := ?_) #[true, true, true, true, true, true, true, true, true, true, true, true, true, true, true, true, true, true, true, true, true, false, false, false, false, false, false, false, false, false, false, false, false, false, false, false, false, false, false, false, false, false, false, false, false, false, false, false, false, false, false, false, false, false, false, false, false] rfl rfl (by kernel_rfl) (fun _ _ _ h => h) (Or.inl ⟨by rfl, ?_⟩) ?_ ?_
  rotate_left
  · intro w'
    go_simp
    with_reducible rfl
  rotate_left
  · simp only [Act.put, List.setIfInBounds_toArray, List.set_cons_zero, List.set_cons_succ, i64_w, i32_w]
    rfl
  refine pure_ (i := 21) (N := some 60) (v := ?_) (a' := ?_) #[true, true, true, true, true, true, true, true, true, true, true, true, true, true, true, true, true, true, true, true, true, true, false, false, false, false, false, false, false, false, false, false, false, false, false, false, false, false, false, false, false, false, false, false, false, false, false, false, false, false, false, false, false, false, false, false, false] rfl rfl (by kernel_rfl) (fun _ _ _ h => h) (Or.inl ⟨by rfl, ?_⟩) ?_ ?_
  rotate_left
  · intro w'
    go_simp
    with_reducible rfl
  rotate_left
  · simp only [Act.put, List.setIfInBounds_toArray, List.set_cons_zero, List.set_cons_succ, i64_w, i32_w]
    rfl
  refine pure_ (i := 22) (N := some 61) (v := ?_) (a' := ?_) #[true, true, true, true, true, true, true, true, true, true, true, true, true, true, true, true, true, true, true, true, true, true, true, false, false, false, false, false, false, false, false, false, false, false, false, false, false, false, false, false, false, false, false, false, false, false, false, false, false, false, false, false, false, false, false, false, false] rfl rfl (by kernel_rfl) (fun _ _ _ h => h) (Or.inl ⟨by rfl, ?_⟩) ?_ ?_
  rotate_left
  · intro w'
    go_simp
    with_reducible rfl
  rotate_left
  · simp only [Act.put, List.setIfInBounds_toArray, List.set_cons_zero, List.set_cons_succ, i64_w, i32_w]
    rfl
  refine take_ (i := 23) (N := some 62) (v := ?_) (a' := ?_) #[true, true, true, true, true, true, true, true, true, true, true, true, true, true, true, true, true, true, true, true, true, true, true, true, false, false, false, false, false, false, false, false, false, false, false, false, false, false, false, false, false, false, false, false, false, false, false, false, false, false, false, false, false, false, false, false, false] rfl rfl (by kernel_rfl) (fun _ _ _ h => h) (Or.inl ⟨by rfl, ?_⟩) hHeld ?_ ?_
  rotate_left
  · rintro w' ⟨s0, s1, s2, s3, s4, s5⟩
    go_simp
    with_reducible rfl
  rotate_left
  · simp only [Act.put, List.setIfInBounds_toArray, List.set_cons_zero, List.set_cons_succ, i64_w, i32_w]
    rfl
  refine one_ (i := 24) (N := some 63) #[true, true, true, true, true, true, true, true, true, true, true, true, true, true, true, true, true, true, true, true, true, true, true, true, true, false, false, false, false, false, false, false, false, false, false, false, false, false, false, false, false, false, false, false, false, false, false, false, false, false, false, false, false, false, false, false, false] rfl rfl (by kernel_rfl) (by decide) (fun K hK => ?_)
  refine value_ (w1 := ?_) (v := ?_) (by rfl) rfl ?_ ?_
  rotate_left 2
  · go_simp
    constructor
    · rfl
    · rfl
  have HB24 := Aside0.mk (HB19.out.alloc HB19.out.size (.cells #[.int .i64 0, .int .i64 1] 3))
  have s24_0 := HF0'.out _ HB24.out
  have s24_1 := HF1'.out _ HB24.out
  have s24_2 := HF2'.out _ HB24.out
  have s24_3 := HF3'.out _ HB24.out
  have s24_4 := HF4'.out _ HB24.out
  have s24_5 := HF5'.out _ HB24.out
  refine hK.out _ _ ⟨s24_0, s24_1, s24_2, s24_3, s24_4, s24_5⟩ (fun hHeld => ?_)
  clear hK K
  refine norm_ (a' := ?_) ?_ ?_
  rotate_left
  · show Act.put _ (some 63) _ = _
    simp only [Act.put, List.setIfInBounds_toArray, List.set_cons_zero, List.set_cons_succ, i64_w, i32_w]
    rfl
  refine one_ (i := 25) (N := some 64) #[true, true, true, true, true, true, true, true, true, true, true, true, true, true, true, true, true, true, true, true, true, true, true, true, true, true, false, false, false, false, false, false, false, false, false, false, false, false, false, false, false, false, false, false, false, false, false, false, false, false, false, false, false, false, false, false, false] rfl rfl (by kernel_rfl) (by decide) (fun K hK => ?_)
  refine goes_ Tryd.func24 (by kernel_rfl) rfl #[.slice EA 2 ka, .slice (some ⟨w19.heap.size, 0, none⟩) 2 2] (by rfl) rfl rfl (by simp only [List.map_toArray, List.map_cons, List.map_nil]; rfl) ?_
  with_reducible refine (HC25.out _ HB19.out).mono ?_
  rintro e w25 ⟨rfl, hd25⟩
  refine ⟨_, rfl, ?_⟩
  have HB25 := Aside0.mk (HB24.out.trans (hd25.below.mono HB24.out.size))
  clear hd25
  have s25_0 := HF0'.out _ HB25.out
  have s25_1 := HF1'.out _ HB25.out
  have s25_2 := HF2'.out _ HB25.out
  have s25_3 := HF3'.out _ HB25.out
  have s25_4 := HF4'.out _ HB25.out
  have s25_5 := HF5'.out _ HB25.out
  refine hK.out _ _ ⟨s25_0, s25_1, s25_2, s25_3, s25_4, s25_5⟩ (fun hHeld => ?_)
  clear hK K
  refine norm_ (a' := ?_) ?_ ?_
  rotate_left
  · show Act.put _ (some 64) _ = _
    simp only [Act.put, List.setIfInBounds_toArray, List.set_cons_zero, List.set_cons_succ, i64_w, i32_w]
    rfl
  refine pure_ (i := 26) (N := some 65) (v := ?_) (a' := ?_) #[true, true, true, true, true, true, true, true, true, true, true, true, true, true, true, true, true, true, true, true, true, true, true, true, true, true, true, false, false, false, false, false, false, false, false, false, false, false, false, false, false, false, false, false, false, false, false, false, false, false, false, false, false, false, false, false, false] rfl rfl (by kernel_rfl) (fun _ _ _ h => h) (Or.inl ⟨by rfl, ?_⟩) ?_ ?_
  rotate_left
  · intro w'
    go_simp
    with_reducible rfl
  rotate_left
  · simp only [Act.put, List.setIfInBounds_toArray, List.set_cons_zero, List.set_cons_succ, i64_w, i32_w]
    rfl
  refine pure_ (i := 27) (N := some 66) (v := ?_) (a' := ?_) #[true, true, true, true, true, true, true, true, true, true, true, true, true, true, true, true, true, true, true, true, true, true, true, true, true, true, true, true, false, false, false, false, false, false, false, false, false, false, false, false, false, false, false, false, false, false, false, false, false, false, false, false, false, false, false, false, false] rfl rfl (by kernel_rfl) (fun _ _ _ h => h) (Or.inl ⟨by rfl, ?_⟩) ?_ ?_
  rotate_left
  · intro w'
    go_simp
    with_reducible rfl
  rotate_left
  · simp only [Act.put, List.setIfInBounds_toArray, List.set_cons_zero, List.set_cons_succ, i64_w, i32_w]
    rfl
  refine pure_ (i := 28) (N := some 67) (v := ?_) (a' := ?_) #[true, true, true, true, true, true, true, true, true, true, true, true, true, true, true, true, true, true, true, true, true, true, true, true, true, true, true, true, true, false, false, false, false, false, false, false, false, false, false, false, false, false, false, false, false, false, false, false, false, false, false, false, false, false, false, false, false] rfl rfl (by kernel_rfl) (fun _ _ _ h => h) (Or.inl ⟨by rfl, ?_⟩) ?_ ?_
  rotate_left
  · intro w'
    go_simp
    with_reducible rfl
  rotate_left
  · simp only [Act.put, List.setIfInBounds_toArray, List.set_cons_zero, List.set_cons_succ, i64_w, i32_w]
    rfl
  refine pure_ (i := 30) (N := some 69) (v := ?_) (a' := ?_) #[true, true, true, true, true, true, true, true, true, true, true, true, true, true, true, true, true, true, true, true, true, true, true, true, true, true, true, true, true, false, true, false, false, false, false, false, false, false, false, false, false, false, false, false, false, false, false, false, false, false, false, false, false, false, false, false, false] rfl rfl (by kernel_rfl) (fun _ _ _ h => h) (Or.inl ⟨by rfl, ?_⟩) ?_ ?_
  rotate_left
  · intro w'
    go_simp
    with_reducible rfl
  rotate_left
  · simp only [Act.put, List.setIfInBounds_toArray, List.set_cons_zero, List.set_cons_succ, i64_w, i32_w]
    rfl
  refine take_ (i := 29) (N := some 68) (v := ?_) (a' := ?_) #[true, true, true, true, true, true, true, true, true, true, true, true, true, true, true, true, true, true, true, true, true, true, true, true, true, true, true, true, true, true, true, false, false, false, false, false, false, false, false, false, false, false, false, false, false, false, false, false, false, false, false, false, false, false, false, false, false] rfl rfl (by kernel_rfl) (fun _ _ _ h => h) (Or.inl ⟨by rfl, ?_⟩) hHeld ?_ ?_
  rotate_left
  · rintro w' ⟨s0, s1, s2, s3, s4, s5⟩
    go_simp
    with_reducible rfl
  rotate_left
  · simp only [Act.put, List.setIfInBounds_toArray, List.set_cons_zero, List.set_cons_succ, i64_w, i32_w]
    rfl
  refine one_ (i := 31) (N := some 70) #[true, true, true, true, true, true, true, true, true, true, true, true, true, true, true, true, true, true, true, true, true, true, true, true, true, true, true, true, true, true, true, true, false, false, false, false, false, false, false, false, false, false, false, false, false, false, false, false, false, false, false, false, false, false, false, false, false] rfl rfl (by kernel_rfl) (by decide) (fun K hK => ?_)
  refine goes_ Tryd.func11 (by kernel_rfl) rfl #[.slice (some ⟨gb, 0, none⟩) 5 cb, .slice (some ⟨gg, 0, none⟩) 5 5] (by rfl) rfl rfl (by simp only [List.map_toArray, List.map_cons, List.map_nil]; rfl) ?_
  with_reducible refine (HC31.out _ HB25.out).mono ?_
  rintro e w31 ⟨rfl, hd31⟩
  refine ⟨_, rfl, ?_⟩
  have HB31 := Aside0.mk (HB25.out.trans (hd31.below.mono HB25.out.size))
  clear hd31
  have s31_0 := HF0'.out _ HB31.out
  have s31_1 := HF1'.out _ HB31.out
  have s31_2 := HF2'.out _ HB31.out
  have s31_3 := HF3'.out _ HB31.out
  have s31_4 := HF4'.out _ HB31.out
  have s31_5 := HF5'.out _ HB31.out
  refine hK.out _ _ ⟨s31_0, s31_1, s31_2, s31_3, s31_4, s31_5⟩ (fun hHeld => ?_)
  clear hK K
  refine norm_ (a' := ?_) ?_ ?_
  rotate_left
  · show Act.put _ (some 70) _ = _
    simp only [Act.put, List.setIfInBounds_toArray, List.set_cons_zero, List.set_cons_succ, i64_w, i32_w]
    rfl
  refine pure_ (i := 32) (N := some 71) (v := ?_) (a' := ?_) #[true, true, true, true, true, true, true, true, true, true, true, true, true, true, true, true, true, true, true, true, true, true, true, true, true, true, true, true, true, true, true, true, true, false, false, false, false, false, false, false, false, false, false, false, false, false, false, false, false, false, false, false, false, false, false, false, false] rfl rfl (by kernel_rfl) (fun _ _ _ h => h) (Or.inl ⟨by rfl, ?_⟩) ?_ ?_
  rotate_left
  · intro w'
    go_simp
    with_reducible rfl
  rotate_left
  · simp only [Act.put, List.setIfInBounds_toArray, List.set_cons_zero, List.set_cons_succ, i64_w, i32_w]
    rfl
  refine pure_ (i := 33) (N := some 72) (v := ?_) (a' := ?_) #[true, true, true, true, true, true, true, true, true, true, true, true, true, true, true, true, true, true, true, true, true, true, true, true, true, true, true, true, true, true, true, true, true, true, false, false, false, false, false, false, false, false, false, false, false, false, false, false, false, false, false, false, false, false, false, false, false] rfl rfl (by kernel_rfl) (fun _ _ _ h => h) (Or.inl ⟨by rfl, ?_⟩) ?_ ?_
  rotate_left
  · intro w'
    go_simp
    with_reducible rfl
  rotate_left
  · simp only [Act.put, List.setIfInBounds_toArray, List.set_cons_zero, List.set_cons_succ, i64_w, i32_w]
    rfl
  refine pure_ (i := 34) (N := some 73) (v := ?_) (a' := ?_) #[true, true, true, true, true, true, true, true, true, true, true, true, true, true, true, true, true, true, true, true, true, true, true, true, true, true, true, true, true, true, true, true, true, true, true, false, false, false, false, false, false, false, false, false, false, false, false, false, false, false, false, false, false, false, false, false, false] rfl rfl (by kernel_rfl) (fun _ _ _ h => h) (Or.inl ⟨by rfl, ?_⟩) ?_ ?_
  rotate_left
  · intro w'
    go_simp
    with_reducible rfl
  rotate_left
  · simp only [Act.put, List.setIfInBounds_toArray, List.set_cons_zero, List.set_cons_succ, i64_w, i32_w]
    rfl
  refine take_ (i := 35) (N := some 74) (v := ?_) (a' := ?_) #[true, true, true, true, true, true, true, true, true, true, true, true, true, true, true, true, true, true, true, true, true, true, true, true, true, true, true, true, true, true, true, true, true, true, true, true, false, false, false, false, false, false, false, false, false, false, false, false, false, false, false, false, false, false, false, false, false] rfl rfl (by kernel_rfl) (fun _ _ _ h => h) (Or.inl ⟨by rfl, ?_⟩) hHeld ?_ ?_
  rotate_left
  · rintro w' ⟨s0, s1, s2, s3, s4, s5⟩
    go_simp
    with_reducible rfl
  rotate_left
  · simp only [Act.put, List.setIfInBounds_toArray, List.set_cons_zero, List.set_cons_succ, i64_w, i32_w]
    rfl
  refine pure_ (i := 36) (N := some 75) (v := ?_) (a' := ?_) #[true, true, true, true, true, true, true, true, true, true, true, true, true, true, true, true, true, true, true, true, true, true, true, true, true, true, true, true, true, true, true, true, true, true, true, true, true, false, false, false, false, false, false, false, false, false, false, false, false, false, false, false, false, false, false, false, false] rfl rfl (by kernel_rfl) (fun _ _ _ h => h) (Or.inl ⟨by rfl, ?_⟩) ?_ ?_
  rotate_left
  · intro w'
    go_simp
    with_reducible rfl
  rotate_left
  · simp only [Act.put, List.setIfInBounds_toArray, List.set_cons_zero, List.set_cons_succ, i64_w, i32_w]
    rfl
  refine pure_ (i := 37) (N := some 76) (v := ?_) (a' := ?_) #[true, true, true, true, true, true, true, true, true, true, true, true, true, true, true, true, true, true, true, true, true, true, true, true, true, true, true, true, true, true, true, true, true, true, true, true, true, true, false, false, false, false, false, false, false, false, false, false, false, false, false, false, false, false, false, false, false] rfl rfl (by kernel_rfl) (fun _ _ _ h => h) (Or.inl ⟨by rfl, ?_⟩) ?_ ?_
  rotate_left
  · intro w'
    go_simp
    with_reducible rfl
  rotate_left
  · simp only [Act.put, List.setIfInBounds_toArray, List.set_cons_zero, List.set_cons_succ, i64_w, i32_w]
    rfl
  refine pure_ (i := 38) (N := some 77) (v := ?_) (a' := ?_) #[true, true, true, true, true, true, true, true, true, true, true, true, true, true, true, true, true, true, true, true, true, true, true, true, true, true, true, true, true, true, true, true, true, true, true, true, true, true, true, false, false, false, false, false, false, false, false, false, false, false, false, false, false, false, false, false, false] rfl rfl (by kernel_rfl) (fun _ _ _ h => h) (Or.inl ⟨by rfl, ?_⟩) ?_ ?_
  rotate_left
  · intro w'
    go_simp
    with_reducible rfl
  rotate_left
  · simp only [Act.put, List.setIfInBounds_toArray, List.set_cons_zero, List.set_cons_succ, i64_w, i32_w]
    rfl
  refine pure_ (i := 39) (N := some 78) (v := ?_) (a' := ?_) #[true, true, true, true, true, true, true, true, true, true, true, true, true, true, true, true, true, true, true, true, true, true, true, true, true, true, true, true, true, true, true, true, true, true, true, true, true, true, true, true, false, false, false, false, false, false, false, false, false, false, false, false, false, false, false, false, false] rfl rfl (by kernel_rfl) (fun _ _ _ h => h) (Or.inl ⟨by rfl, ?_⟩) ?_ ?_
  rotate_left
  · intro w'
    go_simp
    with_reducible rfl
  rotate_left
  · simp only [Act.put, List.setIfInBounds_toArray, List.set_cons_zero, List.set_cons_succ, i64_w, i32_w]
    rfl
  refine pure_ (i := 40) (N := some 79) (v := ?_) (a' := ?_) #[true, true, true, true, true, true, true, true, true, true, true, true, true, true, true, true, true, true, true, true, true, true, true, true, true, true, true, true, true, true, true, true, true, true, true, true, true, true, true, true, true, false, false, false, false, false, false, false, false, false, false, false, false, false, false, false, false] rfl rfl (by kernel_rfl) (fun _ _ _ h => h) (Or.inl ⟨by rfl, ?_⟩) ?_ ?_
  rotate_left
  · intro w'
    go_simp
    with_reducible rfl
  rotate_left
  · simp only [Act.put, List.setIfInBounds_toArray, List.set_cons_zero, List.set_cons_succ, i64_w, i32_w]
    rfl
  refine one_ (i := 41) (N := some 80) #[true, true, true, true, true, true, true, true, true, true, true, true, true, true, true, true, true, true, true, true, true, true, true, true, true, true, true, true, true, true, true, true, true, true, true, true, true, true, true, true, true, true, false, false, false, false, false, false, false, false, false, false, false, false, false, false, false] rfl rfl (by kernel_rfl) (by decide) (fun K hK => ?_)
  refine value_ (w1 := ?_) (v := ?_) (by rfl) rfl ?_ ?_
  rotate_left 2
  · go_simp
    constructor
    · rfl
    · rfl
  have HB41 := Aside0.mk (HB31.out.alloc HB31.out.size (.cells #[.int .u8 16, .int .u8 12, .int .u8 5, .int .u8 19] 5))
  have s41_0 := HF0'.out _ HB41.out
  have s41_1 := HF1'.out _ HB41.out
  have s41_2 := HF2'.out _ HB41.out
  have s41_3 := HF3'.out _ HB41.out
  have s41_4 := HF4'.out _ HB41.out
  have s41_5 := HF5'.out _ HB41.out
  refine hK.out _ _ ⟨s41_0, s41_1, s41_2, s41_3, s41_4, s41_5⟩ (fun hHeld => ?_)
  clear hK K
  refine norm_ (a' := ?_) ?_ ?_
  rotate_left
  · show Act.put _ (some 80) _ = _
    simp only [Act.put, List.setIfInBounds_toArray, List.set_cons_zero, List.set_cons_succ, i64_w, i32_w]
    rfl
  refine one_ (i := 42) (N := some 81) #[true, true, true, true, true, true, true, true, true, true, true, true, true, true, true, true, true, true, true, true, true, true, true, true, true, true, true, true, true, true, true, true, true, true, true, true, true, true, true, true, true, true, true, false, false, false, false, false, false, false, false, false, false, false, false, false, false] rfl rfl (by kernel_rfl) (by decide) (fun K hK => ?_)
  refine goes_ Tryd.func11 (by kernel_rfl) rfl #[.slice (some ⟨gs, 0, none⟩) 4 4, .slice (some ⟨w31.heap.size, 0, none⟩) 4 4] (by rfl) rfl rfl (by simp only [List.map_toArray, List.map_cons, List.map_nil]; rfl) ?_
  with_reducible refine (HC42.out _ HB31.out).mono ?_
  rintro e w42 ⟨rfl, hd42⟩
  refine ⟨_, rfl, ?_⟩
  have HB42 := Aside0.mk (HB41.out.trans (hd42.below.mono HB41.out.size))
  clear hd42
  have s42_0 := HF0'.out _ HB42.out
  have s42_1 := HF1'.out _ HB42.out
  have s42_2 := HF2'.out _ HB42.out
  have s42_3 := HF3'.out _ HB42.out
  have s42_4 := HF4'.out _ HB42.out
  have s42_5 := HF5'.out _ HB42.out
  refine hK.out _ _ ⟨s42_0, s42_1, s42_2, s42_3, s42_4, s42_5⟩ (fun hHeld => ?_)
  clear hK K
  refine norm_ (a' := ?_) ?_ ?_
  rotate_left
  · show Act.put _ (some 81) _ = _
    simp only [Act.put, List.setIfInBounds_toArray, List.set_cons_zero, List.set_cons_succ, i64_w, i32_w]
    rfl
  refine pure_ (i := 43) (N := some 82) (v := ?_) (a' := ?_) #[true, true, true, true, true, true, true, true, true, true, true, true, true, true, true, true, true, true, true, true, true, true, true, true, true, true, true, true, true, true, true, true, true, true, true, true, true, true, true, true, true, true, true, true, false, false, false, false, false, false, false, false, false, false, false, false, false] rfl rfl (by kernel_rfl) (fun _ _ _ h => h) (Or.inl ⟨by rfl, ?_⟩) ?_ ?_
  rotate_left
  · intro w'
    go_simp
    with_reducible rfl
  rotate_left
  · simp only [Act.put, List.setIfInBounds_toArray, List.set_cons_zero, List.set_cons_succ, i64_w, i32_w]
    rfl
  refine pure_ (i := 44) (N := some 83) (v := ?_) (a' := ?_) #[true, true, true, true, true, true, true, true, true, true, true, true, true, true, true, true, true, true, true, true, true, true, true, true, true, true, true, true, true, true, true, true, true, true, true, true, true, true, true, true, true, true, true, true, true, false, false, false, false, false, false, false, false, false, false, false, false] rfl rfl (by kernel_rfl) (fun _ _ _ h => h) (Or.inl ⟨by rfl, ?_⟩) ?_ ?_
  rotate_left
  · intro w'
    go_simp
    with_reducible rfl
  rotate_left
  · simp only [Act.put, List.setIfInBounds_toArray, List.set_cons_zero, List.set_cons_succ, i64_w, i32_w]
    rfl
  refine pure_ (i := 45) (N := some 84) (v := ?_) (a' := ?_) #[true, true, true, true, true, true, true, true, true, true, true, true, true, true, true, true, true, true, true, true, true, true, true, true, true, true, true, true, true, true, true, true, true, true, true, true, true, true, true, true, true, true, true, true, true, true, false, false, false, false, false, false, false, false, false, false, false] rfl rfl (by kernel_rfl) (fun _ _ _ h => h) (Or.inl ⟨by rfl, ?_⟩) ?_ ?_
  rotate_left
  · intro w'
    go_simp
    with_reducible rfl
  rotate_left
  · simp only [Act.put, List.setIfInBounds_toArray, List.set_cons_zero, List.set_cons_succ, i64_w, i32_w]
    rfl
  refine take_ (i := 46) (N := some 85) (v := ?_) (a' := ?_) #[true, true, true, true, true, true, true, true, true, true, true, true, true, true, true, true, true, true, true, true, true, true, true, true, true, true, true, true, true, true, true, true, true, true, true, true, true, true, true, true, true, true, true, true, true, true, true, false, false, false, false, false, false, false, false, false, false] rfl rfl (by kernel_rfl) (fun _ _ _ h => h) (Or.inl ⟨by rfl, ?_⟩) hHeld ?_ ?_
  rotate_left
  · rintro w' ⟨s0, s1, s2, s3, s4, s5⟩
    go_simp
    with_reducible rfl
  rotate_left
  · simp only [Act.put, List.setIfInBounds_toArray, List.set_cons_zero, List.set_cons_succ, i64_w, i32_w]
    rfl
  refine one_ (i := 47) (N := some 86) #[true, true, true, true, true, true, true, true, true, true, true, true, true, true, true, true, true, true, true, true, true, true, true, true, true, true, true, true, true, true, true, true, true, true, true, true, true, true, true, true, true, true, true, true, true, true, true, true, false, false, false, false, false, false, false, false, false] rfl rfl (by kernel_rfl) (by decide) (fun K hK => ?_)
  refine value_ (w1 := ?_) (v := ?_) (by rfl) rfl ?_ ?_
  rotate_left 2
  · go_simp
    constructor
    · rfl
    · rfl
  have HB47 := Aside0.mk (HB42.out.alloc HB42.out.size (.cells (madeCells #[.int .u8 0] 5) 5))
  have s47_0 := HF0'.out _ HB47.out
  have s47_1 := HF1'.out _ HB47.out
  have s47_2 := HF2'.out _ HB47.out
  have s47_3 := HF3'.out _ HB47.out
  have s47_4 := HF4'.out _ HB47.out
  have s47_5 := HF5'.out _ HB47.out
  refine hK.out _ _ ⟨s47_0, s47_1, s47_2, s47_3, s47_4, s47_5⟩ (fun hHeld => ?_)
  clear hK K
  refine norm_ (a' := ?_) ?_ ?_
  rotate_left
  · show Act.put _ (some 86) _ = _
    simp only [Act.put, List.setIfInBounds_toArray, List.set_cons_zero, List.set_cons_succ, i64_w, i32_w]
    rfl
  refine one_ (i := 48) (N := some 87) #[true, true, true, true, true, true, true, true, true, true, true, true, true, true, true, true, true, true, true, true, true, true, true, true, true, true, true, true, true, true, true, true, true, true, true, true, true, true, true, true, true, true, true, true, true, true, true, true, true, false, false, false, false, false, false, false, false] rfl rfl (by kernel_rfl) (by decide) (fun K hK => ?_)
  refine goes_ Tryd.func11 (by kernel_rfl) rfl #[.slice (some ⟨gc, 0, none⟩) 5 cc, .slice (some ⟨w42.heap.size, 0, none⟩) 5 5] (by rfl) rfl rfl (by simp only [List.map_toArray, List.map_cons, List.map_nil]; rfl) ?_
  with_reducible refine (HC48.out _ HB42.out).mono ?_
  rintro e w48 ⟨rfl, hd48⟩
  refine ⟨_, rfl, ?_⟩
  have HB48 := Aside0.mk (HB47.out.trans (hd48.below.mono HB47.out.size))
  clear hd48
  have s48_0 := HF0'.out _ HB48.out
  have s48_1 := HF1'.out _ HB48.out
  have s48_2 := HF2'.out _ HB48.out
  have s48_3 := HF3'.out _ HB48.out
  have s48_4 := HF4'.out _ HB48.out
  have s48_5 := HF5'.out _ HB48.out
  refine hK.out _ _ ⟨s48_0, s48_1, s48_2, s48_3, s48_4, s48_5⟩ (fun hHeld => ?_)
  clear hK K
  refine norm_ (a' := ?_) ?_ ?_
  rotate_left
  · show Act.put _ (some 87) _ = _
    simp only [Act.put, List.setIfInBounds_toArray, List.set_cons_zero, List.set_cons_succ, i64_w, i32_w]
    rfl
  refine pure_ (i := 49) (N := some 88) (v := ?_) (a' := ?_) #[true, true, true, true, true, true, true, true, true, true, true, true, true, true, true, true, true, true, true, true, true, true, true, true, true, true, true, true, true, true, true, true, true, true, true, true, true, true, true, true, true, true, true, true, true, true, true, true, true, true, false, false, false, false, false, false, false] rfl rfl (by kernel_rfl) (fun _ _ _ h => h) (Or.inl ⟨by rfl, ?_⟩) ?_ ?_
  rotate_left
  · intro w'
    go_simp
    with_reducible rfl
  rotate_left
  · simp only [Act.put, List.setIfInBounds_toArray, List.set_cons_zero, List.set_cons_succ, i64_w, i32_w]
    rfl
  refine pure_ (i := 50) (N := some 89) (v := ?_) (a' := ?_) #[true, true, true, true, true, true, true, true, true, true, true, true, true, true, true, true, true, true, true, true, true, true, true, true, true, true, true, true, true, true, true, true, true, true, true, true, true, true, true, true, true, true, true, true, true, true, true, true, true, true, true, false, false, false, false, false, false] rfl rfl (by kernel_rfl) (fun _ _ _ h => h) (Or.inl ⟨by rfl, ?_⟩) ?_ ?_
  rotate_left
  · intro w'
    go_simp
    with_reducible rfl
  rotate_left
  · simp only [Act.put, List.setIfInBounds_toArray, List.set_cons_zero, List.set_cons_succ, i64_w, i32_w]
    rfl
  refine pure_ (i := 51) (N := some 90) (v := ?_) (a' := ?_) #[true, true, true, true, true, true, true, true, true, true, true, true, true, true, true, true, true, true, true, true, true, true, true, true, true, true, true, true, true, true, true, true, true, true, true, true, true, true, true, true, true, true, true, true, true, true, true, true, true, true, true, true, false, false, false, false, false] rfl rfl (by kernel_rfl) (fun _ _ _ h => h) (Or.inl ⟨by rfl, ?_⟩) ?_ ?_
  rotate_left
  · intro w'
    go_simp
    with_reducible rfl
  rotate_left
  · simp only [Act.put, List.setIfInBounds_toArray, List.set_cons_zero, List.set_cons_succ, i64_w, i32_w]
    rfl
  refine take_ (i := 52) (N := some 91) (v := ?_) (a' := ?_) #[true, true, true, true, true, true, true, true, true, true, true, true, true, true, true, true, true, true, true, true, true, true, true, true, true, true, true, true, true, true, true, true, true, true, true, true, true, true, true, true, true, true, true, true, true, true, true, true, true, true, true, true, true, false, false, false, false] rfl rfl (by kernel_rfl) (fun _ _ _ h => h) (Or.inl ⟨by rfl, ?_⟩) hHeld ?_ ?_
  rotate_left
  · rintro w' ⟨s0, s1, s2, s3, s4, s5⟩
    go_simp
    with_reducible rfl
  rotate_left
  · simp only [Act.put, List.setIfInBounds_toArray, List.set_cons_zero, List.set_cons_succ, i64_w, i32_w]
    rfl
  refine one_ (i := 53) (N := some 92) #[true, true, true, true, true, true, true, true, true, true, true, true, true, true, true, true, true, true, true, true, true, true, true, true, true, true, true, true, true, true, true, true, true, true, true, true, true, true, true, true, true, true, true, true, true, true, true, true, true, true, true, true, true, true, false, false, false] rfl rfl (by kernel_rfl) (by decide) (fun K hK => ?_)
  refine value_ (w1 := ?_) (v := ?_) (by rfl) rfl ?_ ?_
  rotate_left 2
  · go_simp
    constructor
    · rfl
    · rfl
  have HB53 := Aside0.mk (HB48.out.alloc HB48.out.size (.cells #[.int .i64 0] 3))
  have s53_0 := HF0'.out _ HB53.out
  have s53_1 := HF1'.out _ HB53.out
  have s53_2 := HF2'.out _ HB53.out
  have s53_3 := HF3'.out _ HB53.out
  have s53_4 := HF4'.out _ HB53.out
  have s53_5 := HF5'.out _ HB53.out
  refine hK.out _ _ ⟨s53_0, s53_1, s53_2, s53_3, s53_4, s53_5⟩ (fun hHeld => ?_)
  clear hK K
  refine norm_ (a' := ?_) ?_ ?_
  rotate_left
  · show Act.put _ (some 92) _ = _
    simp only [Act.put, List.setIfInBounds_toArray, List.set_cons_zero, List.set_cons_succ, i64_w, i32_w]
    rfl
  refine one_ (i := 54) (N := some 93) #[true, true, true, true, true, true, true, true, true, true, true, true, true, true, true, true, true, true, true, true, true, true, true, true, true, true, true, true, true, true, true, true, true, true, true, true, true, true, true, true, true, true, true, true, true, true, true, true, true, true, true, true, true, true, true, false, false] rfl rfl (by kernel_rfl) (by decide) (fun K hK => ?_)
  refine goes_ Tryd.func24 (by kernel_rfl) rfl #[.slice EC 1 kc, .slice (some ⟨w48.heap.size, 0, none⟩) 1 1] (by rfl) rfl rfl (by simp only [List.map_toArray, List.map_cons, List.map_nil]; rfl) ?_
  with_reducible refine (HC54.out _ HB48.out).mono ?_
  rintro e w54 ⟨rfl, hd54⟩
  refine ⟨_, rfl, ?_⟩
  have HB54 := Aside0.mk (HB53.out.trans (hd54.below.mono HB53.out.size))
  clear hd54
  have s54_0 := HF0'.out _ HB54.out
  have s54_1 := HF1'.out _ HB54.out
  have s54_2 := HF2'.out _ HB54.out
  have s54_3 := HF3'.out _ HB54.out
  have s54_4 := HF4'.out _ HB54.out
  have s54_5 := HF5'.out _ HB54.out
  refine hK.out _ _ ⟨s54_0, s54_1, s54_2, s54_3, s54_4, s54_5⟩ (fun hHeld => ?_)
  clear hK K
  refine norm_ (a' := ?_) ?_ ?_
  rotate_left
  · show Act.put _ (some 93) _ = _
    simp only [Act.put, List.setIfInBounds_toArray, List.set_cons_zero, List.set_cons_succ, i64_w, i32_w]
    rfl
  refine pure_ (i := 55) (N := some 94) (v := ?_) (a' := ?_) #[true, true, true, true, true, true, true, true, true, true, true, true, true, true, true, true, true, true, true, true, true, true, true, true, true, true, true, true, true, true, true, true, true, true, true, true, true, true, true, true, true, true, true, true, true, true, true, true, true, true, true, true, true, true, true, true, false] rfl rfl (by kernel_rfl) (fun _ _ _ h => h) (Or.inl ⟨by rfl, ?_⟩) ?_ ?_
  rotate_left
  · intro w'
    go_simp
    with_reducible rfl
  rotate_left
  · simp only [Act.put, List.setIfInBounds_toArray, List.set_cons_zero, List.set_cons_succ, i64_w, i32_w]
    rfl
  refine pure_ (i := 56) (N := some 0) (v := ?_) (a' := ?_) #[true, true, true, true, true, true, true, true, true, true, true, true, true, true, true, true, true, true, true, true, true, true, true, true, true, true, true, true, true, true, true, true, true, true, true, true, true, true, true, true, true, true, true, true, true, true, true, true, true, true, true, true, true, true, true, true, true] rfl rfl (by kernel_rfl) (fun _ _ _ h => h) (Or.inl ⟨by rfl, ?_⟩) ?_ ?_
  rotate_left
  · intro w'
    go_simp
    with_reducible rfl
  rotate_left
  · simp only [Act.put, List.setIfInBounds_toArray, List.set_cons_zero, List.set_cons_succ, i64_w, i32_w]
    rfl
  refine done_ (by kernel_rfl) ?_
  go_wp2
  go_ret
  exact ⟨rfl, HBJ.out.trans (HB54.out.mono HBJ.out.size)⟩
end Go.Proofs.YtlifghomejdhnaaDoor
