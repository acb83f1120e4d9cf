/-
  Decode: link, exactly.
-/
import Derived.Test.Qxb6500847aGreatDoorOsDl
import Derived.Test.Qxb6500847aGreatDoorOxDj
namespace Go.Proofs.Qxb6500847aGreatDoor.Os
open Go.RowKit FloorA
set_option maxRecDepth 100000
section
variable {D A g cap : Nat} {N rest : List Nat} {rb sb : Nat → Nat} {s s1 : Av} {tl1 : Nat → List Int} {ws1 : Nat → Nat → Nat → Int} {w : World}
def LnXP (D A g cap : Nat) (N rest : List Nat) (rb sb : Nat → Nat) (s1 : Av) (tl1 : Nat → List Int) (ws1 : Nat → Nat → Nat → Int) (w : World) (e : Ending) (w' : World) : Prop :=
  e = .returned (.tuple #[]) ∧ Ext w.heap.size (fun b => b = D ∨ Tz A rb sb b) w w' ∧ ∃ s2 L n, Ms w' A rb sb s2 tl1 ws1 ∧ IV s2 tl1 L n ∧ IX s2 tl1 L n ∧ Hsm s1 s2 ∧ Rn D A g cap N rest w'
set_option maxHeartbeats 8000000 in
theorem link_x {r : Nat → Nat} (hR : Rn D A g cap N rest w) (hM : Ms w A rb sb s1 tl1 ws1) (hV : Iv0 s1 tl1) (hP : Pt s1 r) (hGm : Gm0 s1) (hCt : Ct0 s1 tl1) (hGeo : Geo s1) (hrt : ∀ i, i < 320 → (s1.hd i).typ ≠ 0 → (s1.hd i).par = 65535 → IsReg s1 i ∧ 0 ≤ (s1.hd i).bas ∧ 0 < (s1.hd i).siz ∧ (s1.hd i).bas + (s1.hd i).siz ≤ 281474976710656) (nD : ¬ Tz A rb sb D) (ng : ¬ Tz A rb sb g) :
    Calls Tryz.prog 108 #[.pointer (some ⟨D, 0, none⟩)] w (LnXP D A g cap N rest rb sb s1 tl1 ws1 w) := by
  obtain ⟨cs, hcs, hmk⟩ := make_idx
  obtain ⟨i0, hi0, hz0, hz1, hz2⟩ := info_parts inf29
  have har := hR.ar
  have bB : Below w.heap.size w (((w.alloc (.cells #[.pointer (some ⟨A, 0, none⟩)] 24)).alloc (.cells cs 29)).alloc (.cells #[.slice (some ⟨w.heap.size + 1, 0, none⟩) 0 320] 93)) := Below.thr (two_below _ _) (alloc_below _)
  have hBa : (((w.alloc (.cells #[.pointer (some ⟨A, 0, none⟩)] 24)).alloc (.cells cs 29)).alloc (.cells #[.slice (some ⟨w.heap.size + 1, 0, none⟩) 0 320] 93)).heap[w.heap.size]? = some (.cells #[.pointer (some ⟨A, 0, none⟩)] 24 (0, 0)) := (heap_alloc_old _ _ (by simp; omega)).trans ((heap_alloc_old _ _ (by simp)).trans (heap_new _ _))
  have hBo : (((w.alloc (.cells #[.pointer (some ⟨A, 0, none⟩)] 24)).alloc (.cells cs 29)).alloc (.cells #[.slice (some ⟨w.heap.size + 1, 0, none⟩) 0 320] 93)).heap[w.heap.size + 1 + 1]? = some (.cells #[.slice (some ⟨w.heap.size + 1, 0, none⟩) 0 320] 93 (0, 0)) := new_at _ _ (by simp)
  have hOw : OwnK .u16 29 (w.heap.size + 1) (((w.alloc (.cells #[.pointer (some ⟨A, 0, none⟩)] 24)).alloc (.cells cs 29)).alloc (.cells #[.slice (some ⟨w.heap.size + 1, 0, none⟩) 0 320] 93)) (.slice (some ⟨w.heap.size + 1, 0, none⟩) 0 320) [] := by
    have h1 : ((w.alloc (.cells #[.pointer (some ⟨A, 0, none⟩)] 24)).alloc (.cells cs 29)).heap[w.heap.size + 1]? = some (.cells cs 29 (0, 0)) := new_at _ _ (Deep.nblk_alloc _ _)
    exact ⟨by simp, Or.inr ⟨w.heap.size + 1, 320, cs, rfl, Nat.le_refl _, (heap_alloc_old _ _ (heap_lt h1)).trans h1, Nat.zero_le _, by unfold maxLen; omega, by rw [hcs], by simp⟩⟩
  have HB := hideIt bB
  have HBa := hideIt hBa
  have HBo := hideIt hBo
  have HOw := hideIt hOw
  have HM := hideIt hM
  have HR := hideIt hR
  have HV : Hid (Iv0 s1 tl1) := hV
  have HP := hideIt hP
  have HGm : Hid (Gm0 s1) := hGm
  have HCt : Hid (Ct0 s1 tl1) := hCt
  have HGeo := hideIt hGeo
  have HRt : Hid (∀ i, i < 320 → (s1.hd i).typ ≠ 0 → (s1.hd i).par = 65535 → IsReg s1 i ∧ 0 ≤ (s1.hd i).bas ∧ 0 < (s1.hd i).siz ∧ (s1.hd i).bas + (s1.hd i).siz ≤ 281474976710656) := hrt
  have HND := hideIt nD
  have HNG := hideIt ng
  have HTz := hideIt hM.tzlt
  clear hcs bB hBa hBo hOw hM hR hV hP hGm hCt hGeo hrt nD ng
  go_enter Tryz.func108, Tryz.ntmps108
  go_wp2_with fail
  clear hmk har
  generalize ((w.alloc (.cells #[.pointer (some ⟨A, 0, none⟩)] 24)).alloc (.cells cs 29)).alloc (.cells #[.slice (some ⟨w.heap.size + 1, 0, none⟩) 0 320] 93) = w3 at *
  go_loopw [13] (fun v13 wr => ∃ (k : Nat) (v : Value), k ≤ 320 ∧ v13 = .int .i64 (k : Int) ∧ Below w.heap.size w wr ∧ w3.heap.size ≤ wr.heap.size ∧ wr.heap[w.heap.size]? = some (.cells #[.pointer (some ⟨A, 0, none⟩)] 24 (0, 0)) ∧ wr.heap[w.heap.size + 1 + 1]? = some (.cells #[v] 93 (0, 0)) ∧ OwnK .u16 29 (w.heap.size + 1) wr v ((lvL s1 k).map (fun x : Nat => (x : Int)))) (fun v13 _ => 320 - (intOf v13).toNat)
  case atStart => exact ⟨0, _, by omega, rfl, HB.out, Nat.le_refl _, HBa.out, HBo.out, HOw.out⟩
  case round =>
    obtain ⟨k, v, hk, rfl, hbw, hsz3, hBa, hBo, hOw⟩ := hrel
    have HBw := hideIt hbw
    have HBa := hideIt hBa
    have HBo := hideIt hBo
    have HOw := hideIt hOw
    have HMr := hideIt (HM.out.below hbw)
    have ca := cell_of_one hBa
    have co := cell_of_one hBo
    have fo := free_of_one hBo
    have hll := lvL_len s1 k
    obtain ⟨ad, cap', rfl⟩ := hOw.shape
    have lo := heap_lt hBo
    clear hbw hBa hBo hOw
    by_cases hlt : k < 320
    · have hlt' : (k : Int) < 320 := by omega
      have et := HMr.out.am.typ hlt
      by_cases ht : (s1.hd k).typ = 0
      · have kt : ((s1.hd k).typ != 0) = false := by rw [ht]; rfl
        have hL1 : lvL s1 (k + 1) = lvL s1 k := by rw [lvL, if_pos ht]
        have HL1 := hideIt hL1
        clear ht hL1
        generalize hlen : ((lvL s1 k).map (fun x : Nat => (x : Int))).length = ln at *
        go_wp2_with fail
        exact ⟨⟨k + 1, _, by omega, by go_num, HBw.out, hsz3, HBa.out, HBo.out, by rw [HL1.out]; exact HOw.out⟩, by simp [intOf]; omega⟩
      · have kt : ((s1.hd k).typ != 0) = true := by rw [bne_iff_ne]; exact ht
        have hL1 : lvL s1 (k + 1) = lvL s1 k ++ [k] := by rw [lvL, if_neg ht]
        have HL1 := hideIt hL1
        have ck : (k : Int) % 65536 = (k : Int) := by omega
        have hls : w.heap.size + 1 ≤ wr.heap.size := by omega
        have hbl : ((lvL s1 k).map (fun x : Nat => (x : Int))).length ≤ 320 := by rw [List.length_map]; omega
        clear ht hL1 hll
        generalize hbs : (lvL s1 k).map (fun x : Nat => (x : Int)) = bs at *
        have HBS := hideIt hbs
        clear hbs
        go_wp2_with ((at_builtin; refine wpList_append_own_at _ rfl (.tmp 24) (.tmp 27) 93 rfl (w.heap.size + 1) 29 i0 (.int .u16 0) 1 2 Tryz.underlying93 hi0 hz0 hz1 hz2 rfl (by decide) _ _ _ rfl (HOw.out.alloc _) ⟨wr.heap.size, 0, none⟩ 1 1 [.int .u16 (k : Int)] rfl rfl (new_one wr _ rfl _ _) (ones _ _) (by unfold maxLen; omega) (by omega) (by simp; omega) ?_; intro b1 w4 hown1 hgrow1 _ hwh1; go_loud (obtain ⟨o1, _⟩ := OwnK.app (xs := [(k : Int)]) hown1 rfl hgrow1 hwh1; obtain ⟨ad1, cap1, rfl⟩ := o1.shape; obtain ⟨q1, q2, q3, q4, q5⟩ := lnk_step HBw.out HBa.out HBo.out HOw.out hgrow1 o1; have co4 := cell_of_one q2; have fo4 := free_of_one q2; have HQ := hideIt (And.intro q3 (And.intro q4 q5)); have hsz4 : w3.heap.size ≤ w4.heap.size := Nat.le_trans hsz3 (Nat.le_trans (by simp) hgrow1.size); clear hown1 hgrow1 hwh1 o1 q1 q2 q3 q4 q5)))
        have hle : (bs ++ [(k : Int)]).length = bs.length + 1 := by simp
        rw [hle] at HQ
        refine ⟨⟨k + 1, _, by omega, by go_num, HQ.out.1, by simpa using hsz4, HQ.out.2.1, HQ.out.2.2.1, ?_⟩, by simp [intOf]; omega⟩
        rw [HL1.out, List.map_append, HBS.out]
        exact HQ.out.2.2.2
    · obtain rfl : k = 320 := by omega
      have hmem : ∀ x ∈ lvL s1 320, x < 320 := fun x hx => ((lvL_mem s1 320 x).1 hx).1
      have HSo := hideIt (sort_walk HMr.out.am HBa.out HBo.out HOw.out hmem (lvL_len s1 320) (by have := HTz.out A (Or.inl rfl); omega))
      have HNo := hideIt (own_ne HOw.out HBo.out (by decide))
      have HNa := hideIt (own_ne HOw.out HBa.out (by decide))
      have HOg : Hid (∀ b, (Value.slice ad ((lvL s1 320).map (fun x : Nat => (x : Int))).length cap').ownBlock = some b → w.heap.size + 1 ≤ b) := fun b hb => by
        rcases HOw.out.2 with ⟨e, _⟩ | ⟨g', c', cur, e, h1, _⟩
        · rw [e] at hb; cases hb
        · rw [e] at hb
          have : g' = b := by injection hb
          omega
      clear hmem
      have HLB := hideIt (lvL_len s1 320)
      generalize hlen : ((lvL s1 320).map (fun x : Nat => (x : Int))).length = ln at *
      have HLEN := hideIt hlen
      clear hlen hll
      go_wp2_with fail
      go_at_call 230
      refine HSo.out.mono ?_
      rintro e w5 ⟨rfl, hx5, l', hp5, hso5, hc5⟩
      have hbo5 := (hx5.block (w.heap.size + 1 + 1) lo (fun q => HNo.out q.symm)).trans HBo.out
      have hba5 := (hx5.block w.heap.size (heap_lt HBa.out) (fun q => HNa.out q.symm)).trans HBa.out
      have HBa5 := hideIt hba5
      have co5 := cell_of_one hbo5
      have hl5 : l'.length = ln := by rw [hp5.length_eq, ← HLEN.out, List.length_map]
      have hb5 : Below w.heap.size w w5 := HBw.out.trans (hx5.below' (by have := HBw.out.size; omega) (fun b hb q => by have := HOg.out b q; omega))
      have HB5 := hideIt hb5
      have HM5 := hideIt (HM.out.below hb5)
      have HR5 := hideIt (HR.out.ext (Ext.of_below hb5 (fun _ => False)) id id)
      have HC5 := hideIt hc5
      have HPm := hideIt hp5
      have HSo5 := hideIt hso5
      have HL5 := hideIt hl5
      have hln : (ln : Int) ≤ 320 := by
        have h1 := HLB.out
        have h2 := HLEN.out
        rw [List.length_map] at h2
        omega
      have hcp : ad = none → ln = 0 := fun e => by
        rcases HOw.out.2 with ⟨q, _⟩ | ⟨g', c', cur, q, _⟩
        · injection q with _ q2 _
        · injection q with q1 _ _
          rw [e] at q1
          cases q1
      have HCP : Hid (ad = none → ln = 0) := hcp
      have HAO : Hid (∀ a, ad = some a → ∃ g', a = ⟨g', 0, none⟩) := fun a e => by
        rcases HOw.out.2 with ⟨q, _⟩ | ⟨g', c', cur, q, _⟩
        · injection q with q1 _ _
          rw [e] at q1
          cases q1
        · injection q with q1 _ _
          rw [e] at q1
          injection q1 with q1
          exact ⟨g', q1⟩
      clear hx5 hp5 hso5 hc5 hbo5 hba5 hl5 hb5 hcp
      go_wp2_with fail
      clear co5 co ca fo lo
      go_loopw [36] (fun v36 wz => ∃ (j : Nat) (s2 : Av) (L2 : Nat → List Nat) (n2 : Nat), j ≤ ln ∧ v36 = .int .i64 (j : Int) ∧ Ms wz A rb sb s2 tl1 ws1 ∧ IVd s2 tl1 (fun x => x ∈ l'.take j) L2 n2 ∧ Gm s2 L2 n2 ∧ Ct s2 tl1 (fun x => x ∈ l'.take j) ∧ Hsm s1 s2 ∧ Rn D A g cap N rest wz ∧ Ext w5.heap.size (fun b => b = D ∨ Tz A rb sb b) w5 wz) (fun v36 _ => ln - (intOf v36).toNat)
      case atStart =>
        refine ⟨0, s1, fun _ => [], 0, Nat.zero_le _, rfl, HM5.out, ?_, HGm.out, ?_, Hsm.refl _, HR5.out, Ext.refl _ _ _⟩
        · have : (fun x => x ∈ l'.take 0) = (fun _ => False) := by funext x; simp
          rw [this]
          exact HV.out
        · have : (fun x => x ∈ l'.take 0) = (fun _ => False) := by funext x; simp
          rw [this]
          exact HCt.out
      case round =>
        obtain ⟨j, s2, L2, n2, hj, rfl, hMz, hIz, hGz, hCz, hSz, hRz, hEz⟩ := hrel
        have HGz := hideIt hGz
        have HCz := hideIt hCz
        clear hGz hCz
        have HMz := hideIt hMz
        have HIz := hideIt hIz
        have HSz := hideIt hSz
        have HRz := hideIt hRz
        have HEz := hideIt hEz
        clear hMz hIz hSz hRz hEz
        by_cases hlt : j < ln
        · have hlt' : (j : Int) < (ln : Int) := by omega
          have hjl : j < l'.length := by rw [HL5.out]; exact hlt
          obtain ⟨g', hg'⟩ : ∃ g', ad = some ⟨g', 0, none⟩ := by
            cases had : ad with
            | none => exact absurd (HCP.out had) (by omega)
            | some a =>
              obtain ⟨g', e⟩ := HAO.out a had
              exact ⟨g', by rw [e]⟩
          subst hg'
          have hgb : w.heap.size + 1 ≤ g' := HOg.out g' rfl
          have hcm : l'[j] ∈ lvL s1 320 := HPm.out.mem_iff.1 (List.getElem_mem hjl)
          have hc5 := HC5.out g' ln cap' rfl j hjl
          obtain ⟨c3, ct⟩ := (lvL_mem s1 320 _).1 hcm
          have hnin : l'[j] ∉ l'.take j := fun q => by
            have hnd : l'.Nodup := HPm.out.nodup_iff.2 (lvL_nodup s1 320)
            obtain ⟨i, hi, e⟩ := List.getElem_of_mem q
            rw [List.length_take] at hi
            rw [List.getElem_take] at e
            exact (List.pairwise_iff_getElem.1 hnd i j (by omega) hjl (by omega)) e
          have hDt : (fun x => x ∈ l'.take j ∨ x = l'[j]) = (fun x => x ∈ l'.take (j + 1)) := by
            have e1 : l'.take (j + 1) = l'.take j ++ [l'[j]] := by rw [List.take_add_one, List.getElem?_eq_getElem hjl]; rfl
            funext x
            rw [e1]
            exact propext ⟨fun q => q.elim (fun q => List.mem_append_left _ q) (fun q => by rw [q]; exact List.mem_append_right _ (List.mem_singleton.2 rfl)), fun q => (List.mem_append.1 q).imp id (fun q => List.mem_singleton.1 q)⟩
          have cz : wr.cell? ⟨g', j, none⟩ = some (.int .u16 ((l'[j] : Nat) : Int)) := (HEz.out.cell (p := ⟨g', j, none⟩) (cell_lt hc5) (fun q => by
            rcases q with q | q
            · have := HR.out.lt
              have : g' = D := q
              omega
            · have := HTz.out g' q
              omega)).trans hc5
          have ca : wr.cell? ⟨w.heap.size, 0, none⟩ = some (.pointer (some ⟨A, 0, none⟩)) := (HEz.out.cell (p := ⟨w.heap.size, 0, none⟩) (heap_lt HBa5.out) (fun q => by
            rcases q with q | q
            · have := HR.out.lt
              have : w.heap.size = D := q
              omega
            · exact absurd (HTz.out w.heap.size q) (Nat.lt_irrefl _))).trans (cell_of_one HBa5.out)
          have hbef : ∀ a, a ∈ l'.take j → ltF s1 l'[j] a = false := fun a q => by
            obtain ⟨i, hi, e⟩ := List.getElem_of_mem q
            rw [List.length_take] at hi
            rw [List.getElem_take] at e
            rw [← e]
            exact List.pairwise_iff_getElem.1 HSo5.out i j (by omega) hjl (by omega)
          have HBef := hideIt hbef
          clear hbef
          generalize hcx : l'[j] = c at *
          have c3' : (c : Int) < 320 := by omega
          have HC3 := hideIt (And.intro c3 (And.intro ct hnin))
          have HDt := hideIt hDt
          have epar := HMz.out.am.par c3
          rw [(HSz.out c c3).2.2.2.1] at epar
          have ebas := HMz.out.am.bas c3
          have harz := HRz.out.ar
          clear hcx hcm hc5 hnin hDt hjl
          have eat := HRz.out.at' c3
          obtain ⟨atv, eat⟩ := eat
          have HKp : Hid (∀ wq, Below wr.heap.size wr wq → wq.cell? ⟨w.heap.size, 0, none⟩ = some (.pointer (some ⟨A, 0, none⟩)) ∧ wq.cell? ⟨A, c * 8 + 3, none⟩ = some (.int .u16 (s1.hd c).par) ∧ wq.cell? ⟨A, c * 8 + 6, none⟩ = some (.int .u64 (s2.hd c).bas) ∧ wq.cell? ⟨D, 4 + c, none⟩ = some (.int .i64 atv) ∧ Ms wq A rb sb s2 tl1 ws1) := fun wq k => ⟨(k.cell (p := ⟨w.heap.size, 0, none⟩) (cell_lt ca)).trans ca, (k.cell (p := ⟨A, c * 8 + 3, none⟩) (cell_lt epar)).trans epar, (k.cell (p := ⟨A, c * 8 + 6, none⟩) (cell_lt ebas)).trans ebas, (k.cell (p := ⟨D, 4 + c, none⟩) (cell_lt eat)).trans eat, HMz.out.below k⟩
          rcases HP.out.par c c3 ct with hpar | ⟨p, hp, hpar⟩
          · obtain ⟨creg, cbs⟩ := HRt.out c c3 ct hpar
            have np : ((s1.hd c).par == 65535) = true := by rw [hpar]; rfl
            have hnrt : s2.nrt = (n2 : Int) := HIz.out.ro.rts.nrt
            have enr := HMz.out.am.nrc
            rw [hnrt] at enr
            have HNr : Hid (∀ wq, Below wr.heap.size wr wq → wq.cell? ⟨A, 2885, none⟩ = some (.int .i64 (n2 : Int))) := fun wq k => (k.cell (p := ⟨A, 2885, none⟩) (cell_lt enr)).trans enr
            have HLi2 := hideIt (link_ins_x HIz.out HGz.out HCz.out HSz.out HGeo.out creg hpar HC3.out.2.2 HBef.out)
            have HLas : Hid (∀ d : Nat, 0 < n2 → s2.rts (n2 - 1) = (d : Int) → (s2.hd d).bas + (s2.hd d).siz ≤ (s2.hd c).bas) := fun d h0 ed => link_last HIz.out HSz.out HGeo.out c3 ct hpar HC3.out.2.2 HBef.out (by omega) ed
            have HInw : Hid (∀ wq, Below wr.heap.size wr wq → n2 < 64 → Calls Tryz.prog 129 #[.pointer (some ⟨A, 0, none⟩), .int .i64 (n2 : Int), .int .u16 (c : Int)] wq (MsPost (insS s2 n2 c n2) A rb sb tl1 ws1 wq)) := fun wq k h => insertRoot_walk (HMz.out.below k) c3 hnrt h (Nat.le_refl _)
            have HNx : Hid (∀ wq wq', Below wr.heap.size wr wq → (n2 < 64 ∧ IVd (insS s2 n2 c n2) tl1 (fun x => x ∈ l'.take j ∨ x = c) L2 (n2 + 1) ∧ Gm (insS s2 n2 c n2) L2 (n2 + 1) ∧ Ct (insS s2 n2 c n2) tl1 (fun x => x ∈ l'.take j ∨ x = c) ∧ Hsm s1 (insS s2 n2 c n2)) → Ms wq' A rb sb (insS s2 n2 c n2) tl1 ws1 → Ext wq.heap.size (Tz A rb sb) wq wq' → Ms wq' A rb sb (insS s2 n2 c n2) tl1 ws1 ∧ IVd (insS s2 n2 c n2) tl1 (fun x => x ∈ l'.take (j + 1)) L2 (n2 + 1) ∧ Gm (insS s2 n2 c n2) L2 (n2 + 1) ∧ Ct (insS s2 n2 c n2) tl1 (fun x => x ∈ l'.take (j + 1)) ∧ Hsm s1 (insS s2 n2 c n2) ∧ Rn D A g cap N rest wq' ∧ Ext w5.heap.size (fun b => b = D ∨ Tz A rb sb b) w5 wq') := fun wq wq' k hi h1 h2 => ⟨h1, HDt.out ▸ hi.2.1, hi.2.2.1, HDt.out ▸ hi.2.2.2.1, hi.2.2.2.2, (HRz.out.ext (Ext.of_below k (fun _ => False)) id id).ext h2 HND.out HNG.out, HEz.out.trans ((Ext.of_below k (Tz A rb sb)).trans h2 k.size (fun _ _ q => q)) HEz.out.size (fun _ _ q => Or.inr q)⟩
            rw [hpar] at epar np
            rw [hpar] at HKp
            have cb1 : (s2.hd c).bas = (s1.hd c).bas := (HSz.out c c3).2.2.2.2.1
            have HCB := hideIt cb1
            clear hnrt cbs creg ct cb1
            by_cases n0 : n2 = 0
            · subst n0
              go_wp2_with fail
              go_region
              all_goals
                have HBq := hideIt (below_d wr)
                obtain ⟨ca2, _, _, _, _⟩ := HKp.out _ (below_d wr)
                have enr2 := HNr.out _ (below_d wr)
                generalize wr.drew = wq at *
                clear ca enr epar ebas eat harz
                go_wp2_with fail
                go_region_with (go_at_call 129; refine (HInw.out _ (Below.thr HBq.out (below_d _)) HLi2.out.1).mono ?_; rintro e w7 ⟨rfl, hm7, hx7⟩; have HN7 := hideIt (HNx.out _ _ (Below.thr HBq.out (below_d _)) HLi2.out hm7 hx7); clear hm7 hx7)
                all_goals
                  go_wp2_with fail
                  obtain ⟨b1, b2, bg, bc1, b3, b4, b5⟩ := HN7.out
                  exact ⟨⟨j + 1, _, _, _, by omega, by go_num, b1, b2, bg, bc1, b3, b4, b5⟩, by simp [intOf]; omega⟩
            · obtain ⟨d, d3, ed⟩ := HIz.out.ro.rts.lt (n2 - 1) (by omega)
              have n64 := HIz.out.ro.rts.n64
              have hrd := HIz.out.ro.reg (n2 - 1) d (by omega) ed
              have ert := HMz.out.am.rtc (i := n2 - 1) (by omega)
              rw [ed] at ert
              have d3' : (d : Int) < 320 := by omega
              have g1 : (n2 : Int) > 0 := by omega
              have g0 : 0 < n2 := by omega
              have gd : decide ((n2 : Int) > 0) = true := decide_eq_true g1
              have g2 : wrap64 ((n2 : Int) - 1) = (n2 : Int) - 1 := by unfold wrap64; omega
              have g3 : ((n2 : Int) - 1).toNat = n2 - 1 := by omega
              have g4 : (0 : Int) ≤ (n2 : Int) - 1 := by omega
              have g5 : (n2 : Int) - 1 < 64 := by omega
              have hwr : IntKind.u64.wrap ((s2.hd d).bas + (s2.hd d).siz) = (s2.hd d).bas + (s2.hd d).siz := by
                obtain ⟨_, _, _, q4, q5, q6⟩ := hrd
                unfold IntKind.wrap
                simp [IntKind.bits, IntKind.signed]
                omega
              have HWr := hideIt hwr
              have HGd : Hid (¬ IntKind.u64.wrap ((s2.hd d).bas + (s2.hd d).siz) > (s2.hd c).bas) := by
                show ¬ _
                rw [hwr]
                have := HLas.out d g0 ed
                omega
              have HED := hideIt ed
              have HEn := hideIt (fun x (hx : x < 320) q => end_walk (w := wr.drewN q) (A := A) (s := s2) (i := x) ⟨HMz.out.am.cell, HMz.out.am.free⟩ hx)
              clear hwr hrd ed n0
              have h2 : ¬ IntKind.u64.wrap ((s2.hd d).bas + (s2.hd d).siz) > (s2.hd c).bas := HGd.out
              · have h2' : decide (IntKind.u64.wrap ((s2.hd d).bas + (s2.hd d).siz) > (s2.hd c).bas) = false := decide_eq_false h2
                clear h2
                go_wp2_with fail
                go_quiet ((go_at_call 47; exact Calls.quiet_of ((HEn.out _ (by first | exact c3 | exact d3) _).mono (fun e w' q => ⟨q.1, 1, q.2⟩))))
                have HBq := hideIt (below_dN wr nq)
                obtain ⟨ca2, _, _, _, _⟩ := HKp.out _ (below_dN wr nq)
                have enr2 := HNr.out _ (below_dN wr nq)
                generalize wr.drewN nq = wq at *
                clear ca enr epar ebas eat harz ert g1 g2 g3 g4 g5
                go_wp2_with fail
                go_region_with (go_at_call 129; refine (HInw.out _ (Below.thr HBq.out (below_d _)) HLi2.out.1).mono ?_; rintro e w7 ⟨rfl, hm7, hx7⟩; have HN7 := hideIt (HNx.out _ _ (Below.thr HBq.out (below_d _)) HLi2.out hm7 hx7); clear hm7 hx7)
                all_goals
                  go_wp2_with fail
                  obtain ⟨b1, b2, bg, bc1, b3, b4, b5⟩ := HN7.out
                  exact ⟨⟨j + 1, _, _, _, by omega, by go_num, b1, b2, bg, bc1, b3, b4, b5⟩, by simp [intOf]; omega⟩
          · have np : ((s1.hd c).par == 65535) = false := by
              rw [hpar, beq_eq_false_iff_ne]
              have := hp.2.1
              omega
            rw [hpar] at epar np HKp
            obtain ⟨L', hI', hG', hC', hS'⟩ := link_att_x HIz.out HGz.out HCz.out HSz.out HGeo.out hp c3 ct hpar HC3.out.2.2 HBef.out
            obtain ⟨ht1, ht2⟩ := link_top HIz.out HGz.out HSz.out HGeo.out hp c3 ct hpar HC3.out.2.2 HBef.out
            have lmc := (HSz.out.geo HGeo.out).lim c c3 (by rw [(HSz.out c c3).2.1]; exact ct)
            have lmp := (HSz.out.geo HGeo.out).lim p hp.2.1 (by rw [(HSz.out.reg.2 hp).2.2]; decide)
            have HT2 : Hid (¬ IntKind.u64.wrap ((s2.hd c).bas + (s2.hd c).siz) > IntKind.u64.wrap ((s2.hd p).bas + (s2.hd p).siz)) := by
              show ¬ _
              rw [u64_same (by omega) (by omega), u64_same (by omega) (by omega)]
              omega
            clear ht2 lmc lmp
            have p1 := hp.1
            have p2 := hp.2.1
            have p2' : (p : Int) < 320 := by omega
            have etop := HMz.out.am.rgc (i := p - 256) (f := 3) (by omega) (by omega)
            simp only [rgC] at etop
            have HAt := hideIt (fun wq (k : Below wr.heap.size wr wq) => (attach_any (w := wq) (HMz.out.below k) HIz.out.tr (HSz.out.reg.2 hp) c3 HC3.out.2.2).2)
            have HNw : Hid (∀ wq wq', Below wr.heap.size wr wq → Ms wq' A rb sb (attS s2 p c) tl1 ws1 → Ext wq.heap.size (Tz A rb sb) wq wq' → Ms wq' A rb sb (attS s2 p c) tl1 ws1 ∧ IVd (attS s2 p c) tl1 (fun x => x ∈ l'.take (j + 1)) L' n2 ∧ Gm (attS s2 p c) L' n2 ∧ Ct (attS s2 p c) tl1 (fun x => x ∈ l'.take (j + 1)) ∧ Hsm s1 (attS s2 p c) ∧ Rn D A g cap N rest wq' ∧ Ext w5.heap.size (fun b => b = D ∨ Tz A rb sb b) w5 wq') := fun wq wq' k h1 h2 => ⟨h1, HDt.out ▸ hI', hG', HDt.out ▸ hC', hS', (HRz.out.ext (Ext.of_below k (fun _ => False)) id id).ext h2 HND.out HNG.out, HEz.out.trans ((Ext.of_below k (Tz A rb sb)).trans h2 k.size (fun _ _ q => q)) HEz.out.size (fun _ _ q => Or.inr q)⟩
            have HBd := hideIt (fun q => body_walk A p1 p2 (wr.drewN q))
            clear hI' hS' hG' hC' ct
            generalize (s2.rg (p - 256)).top = tp at *
            generalize hbc0 : (s2.hd c).bas = bc at *
            have HBC := hideIt hbc0
            clear hbc0
            have h1 : ¬ bc < tp := by omega
            clear ht1
            · have h1' : decide (bc < tp) = false := decide_eq_false h1
              clear h1
              go_wp2_with fail
              go_quiet ((go_at_call 45; exact Calls.quiet_of_same (HBd.out _)))
              have HBq := hideIt (below_dN wr nq)
              obtain ⟨ca2, epar2, _, eat2, hM2⟩ := HKp.out _ (below_dN wr nq)
              generalize wr.drewN nq = wq at *
              clear ca epar ebas eat harz etop h1'
              have HEn := hideIt (fun x (hx : x < 320) q => end_walk (w := wq.drewN q) (A := A) (s := s2) (i := x) ⟨hM2.am.cell, hM2.am.free⟩ hx)
              clear hM2
              have h2 : ¬ IntKind.u64.wrap ((s2.hd c).bas + (s2.hd c).siz) > IntKind.u64.wrap ((s2.hd p).bas + (s2.hd p).siz) := by
                have h3 := HT2.out
                rw [HBC.out]
                omega
              · have h2' : decide (IntKind.u64.wrap ((s2.hd c).bas + (s2.hd c).siz) > IntKind.u64.wrap ((s2.hd p).bas + (s2.hd p).siz)) = false := decide_eq_false h2
                clear h2
                go_wp2_with fail
                go_quiet ((go_at_call 47; exact Calls.quiet_of ((HEn.out _ (by first | exact c3 | exact p2) _).mono (fun e w' q => ⟨q.1, 1, q.2⟩))))
                have HBq2 := hideIt (Below.thr HBq.out (below_dN wq nq))
                obtain ⟨ca3, epar3, _, _, _⟩ := HKp.out _ HBq2.out
                generalize wq.drewN nq = wq2 at *
                clear ca2 epar2 eat2
                have HBq := HBq2
                go_wp2_with fail
                go_region_with (go_at_call 135; refine (HAt.out _ (Below.thr HBq.out (below_d _))).mono ?_; rintro e w7 ⟨rfl, hm7, hx7⟩; have HN7 := hideIt (HNw.out _ _ (Below.thr HBq.out (below_d _)) hm7 hx7); clear hm7 hx7)
                all_goals
                  go_wp2_with fail
                  obtain ⟨b1, b2, bg, bc1, b3, b4, b5⟩ := HN7.out
                  exact ⟨⟨j + 1, _, _, _, by omega, by go_num, b1, b2, bg, bc1, b3, b4, b5⟩, by simp [intOf]; omega⟩
        · have hnl : ¬ (j : Int) < (ln : Int) := by omega
          obtain rfl : j = ln := by omega
          have HF : Hid (LnXP D A g cap N rest rb sb s1 tl1 ws1 w (.returned (.tuple #[])) wr) := by
            have hD : ∀ x, x < 320 → (x ∈ l'.take j ↔ (s1.hd x).typ ≠ 0) := fun x hx => by
              rw [List.take_of_length_le (by rw [HL5.out]; exact Nat.le_refl _), HPm.out.mem_iff, lvL_mem]
              exact ⟨fun q => q.2, fun q => ⟨hx, q⟩⟩
            exact ⟨rfl, (Ext.of_below HB5.out _).trans HEz.out HB5.out.size (fun _ _ q => q), s2, L2, n2, HMz.out, link_end HIz.out HSz.out HP.out hD, ⟨HGz.out, HCz.out.congrD (fun x hx => (hD x hx).trans (by show _ ↔ (s2.hd x).typ ≠ 0; rw [(HSz.out x hx).2.1]))⟩, HSz.out, HRz.out⟩
          go_wp2_with fail
          go_end0
          exact HF.out
end
end Go.Proofs.Qxb6500847aGreatDoor.Os
