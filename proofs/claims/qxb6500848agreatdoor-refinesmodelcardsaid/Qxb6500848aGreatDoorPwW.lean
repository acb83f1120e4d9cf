/-
  PartialWord, MatchesPartial.
-/
import Derived.Test.Qxb6500848aGreatDoorParF
import Derived.Test.Qxb6500848aGreatDoorPlainD
namespace Go.Proofs.Qxb6500848aGreatDoor
open Go.RowKit Pl Go.Maps
set_option maxRecDepth 100000

/-- ErrNotPlain. -/
def Gp (w : World) (ad : Addr) : Prop := w.cell? ⟨1, 0, none⟩ = some (.iface 216 (.pointer (some ad)))

def PwPost (ad : Addr) (wd : Word) (x : Int) (X : Nat → Prop) (w : World) (eb mb ab nb : Nat) (lim : Int) (A : List Nd) (e : Ending) (w' : World) : Prop :=
  ∃ X' nb' A' v ev, GrX X w eb mb ab nb lim A X' w' nb' A' ∧ e = .returned (.tuple #[v, ev]) ∧
    ((¬ PlainR A x ∧ ev = .iface 216 (.pointer (some ad)) ∧ v = .slice none 0 0) ∨
     (PlainR A x ∧ ev = .nilIface ∧ ∃ l, Ints X' w' v l ∧ Nz v ∧ l.length ≤ 65536 ∧ Kp X w eb mb ab nb lim A w' nb' A' v ∧ ((Alph wd ∧ ParP A' x wd l) ∨ (¬ Alph wd ∧ l = []))) ∨
     (PlainR A x ∧ (∃ t u, ev = .iface t u) ∧ v = .slice none 0 0 ∧ Fl lim A' w' ev))

theorem Pl.ParP.next {A : List Nd} {x : Int} {wd : Word} {k : Nat} (hk : k < wd.length) {c : Int} (hc : wd[k] = c) {l z : List Int} (h : ParP A x (wd.take k) l) (ha : 0 ≤ c ∧ c ≤ 196607) (hs : ParS A c l z) : ParP A x (wd.take (k + 1)) z := by
  rw [List.take_succ_eq_append_getElem hk, hc]
  exact .step h ha hs

theorem Kp.nil {X X' : Nat → Prop} {w w' : World} {eb mb ab nb nb' : Nat} {lim : Int} {A A' : List Nd} (h : GrX X w eb mb ab nb lim A X' w' nb' A') : Kp X w eb mb ab nb lim A w' nb' A' (.slice none 0 0) := ⟨X', h, fun g e => by cases e⟩
theorem Kp.new {X X' : Nat → Prop} {w w' : World} {eb mb ab nb nb' : Nat} {lim : Int} {A A' : List Nd} (h : GrX X w eb mb ab nb lim A X' w' nb' A') (o : Obj) {n cap : Nat} : Kp X w eb mb ab nb lim A (w'.alloc o) nb' A' (.slice (some ⟨w'.heap.size, 0, none⟩) n cap) :=
  ⟨_, h.addNew o, fun g e => by
    cases e
    have la := h.en.st.ar.la
    have ln := h.en.st.xlt nb' h.en.st.ar.xn
    have lm := h.en.lm
    exact ⟨Or.inr rfl, fun e => Nat.lt_irrefl _ (e ▸ la), fun e => Nat.lt_irrefl _ (e ▸ ln), fun e => Nat.lt_irrefl _ (e ▸ lm), h.ext.size⟩⟩

theorem Kp.trans {X X' : Nat → Prop} {w w1 w2 : World} {eb mb ab nb nb' nb2 : Nat} {lim : Int} {A A' A2 : List Nd} {v : Value} (k : Kp X' w1 eb mb ab nb' lim A' w2 nb2 A2 v) (h : GrX X w eb mb ab nb lim A X' w1 nb' A') : Kp X w eb mb ab nb lim A w2 nb2 A2 v := by
  obtain ⟨Y, h1, h2⟩ := k
  exact ⟨Y, h.trans h1, fun g e => ⟨(h2 g e).1, (h2 g e).2.1, (h2 g e).2.2.1, (h2 g e).2.2.2.1, Nat.le_trans h.ext.size (h2 g e).2.2.2.2⟩⟩

set_option maxHeartbeats 16000000 in
theorem PartialWord_walk {X : Nat → Prop} {w : World} {eb mb ab nb : Nat} {lim : Int} (hlim : lim ≤ 65536) {A : List Nd} (hE : Es X w eb mb ab nb lim A) {ad : Addr} (hn : Gp w ad) (hxn : ¬ X 1) {x : Int} (hx : Valid A x) {wv : Value} {wd : Word} (hw : Ints X w wv wd) (hwl : wd.length ≤ 65536) :
    Calls Tryz.prog 32 #[.pointer (some ⟨eb, 0, none⟩), .int .i64 x, wv] w (PwPost ad wd x X w eb mb ab nb lim A) := by
  have HE := hideIt hE
  have Hn := hideIt hn
  have Hxn := hideIt hxn
  have Hx := hideIt hx
  have Hw := hideIt hw
  have lm3 : mb + 3 < w.heap.size := by obtain ⟨_, _, m, _⟩ := hE.ax.pn; exact m.lt
  have Hxl := hideIt hE.en.st.xlt
  obtain ⟨wa, wcap, rfl, _, _, _⟩ := hw
  obtain ⟨i0, hi0, hz0, hz1, hz2⟩ := info_parts info_id
  have Hnz0 : Hid (Nz (.slice none 0 0)) := fun n c e => by cases e; exact ⟨rfl, rfl⟩
  clear hE hx hn hxn
  go_enter Tryz.func32, Tryz.ntmps32
  go_wp2_with fail
  go_at_call 35
  refine (Plain_walk _ x rfl w HE.out Hx.out).mono ?_
  rintro e w1 ⟨b1, rfl, hb1, hg1⟩
  have HG1 := hideIt hg1
  have hn1 : w1.cell? ⟨1, 0, none⟩ = some (.iface 216 (.pointer (some ad))) := hg1.cell HE.out Hn.out Hxn.out
  have Hw1 := hideIt (hg1.seq HE.out Hw.out)
  have hx64 : x.toNat < A.length := Hx.out.2
  have hA64 := HE.out.en.st.ar.len
  have hx0 : 0 ≤ x := Hx.out.1
  clear hg1
  cases b1
  · have Hno : Hid (¬ PlainR A x) := fun h => absurd (hb1.2 h) (by simp)
    clear hb1
    go_wp2_with fail
    go_region
    go_wp2_with fail
    go_ret2
    exact ⟨X, nb, A, _, _, HG1.out.below (below_d _), rfl, Or.inl ⟨Hno.out, rfl, rfl⟩⟩
  · have Hpl : Hid (PlainR A x) := hb1.1 rfl
    clear hb1 hn1
    go_upto_if 22 with fail
    go_cut [8] (fun v wx => ∃ l, GrX X w eb mb ab nb lim A X wx nb A ∧ Ints X wx v l ∧ Nz v ∧ ParP A x [] l ∧ Kp X w eb mb ab nb lim A wx nb A v ∧ l.length ≤ 65536)
    case first =>
      by_cases h0 : x = 0
      · have Hs : Hid (ParP A x [] []) := by have := ParP.start (A := A) (x := x); rw [if_pos h0] at this; exact this
        have bx : (x != 0) = false := by simp [h0]
        clear h0
        go_wp2_with fail
        go_meet
        exact ⟨[], HG1.out, Seq.nil _ _, Hnz0.out, Hs.out, Kp.nil HG1.out, by simp⟩
      · have Hs : Hid (ParP A x [] [x]) := by have := ParP.start (A := A) (x := x); rw [if_neg h0] at this; exact this
        have bx : (x != 0) = true := by simp [h0]
        clear h0
        go_wp2_with fail
        go_meet
        exact ⟨[x], HG1.out.below (alloc_below _), one_row HG1.out.en.st.xlt (Nat.le_refl _) (box_cell (heap_new _ _) 0), (fun n c e => by cases e), Hs.out, Kp.new HG1.out _, by simp⟩
    case rest =>
      obtain ⟨l, hg, hi, hn, hs, hkp, hl⟩ := hcut
      have Hg := hideIt hg
      have Hi := hideIt hi
      have Hnz := hideIt hn
      have Hs := hideIt hs
      have Hkp := hideIt hkp
      have Hww := hideIt (hg.seq HE.out Hw.out)
      clear hg hi hn hs hkp
      go_wp2_with fail
      go_loopw [8, 27] (fun v i wr => ∃ (k : Nat) (l : List Int) (X' : Nat → Prop) (nb' : Nat) (A' : List Nd), k ≤ wd.length ∧ i = .int .i64 k ∧ GrX X w eb mb ab nb lim A X' wr nb' A' ∧ Ints X' wr v l ∧ Nz v ∧ ParP A' x (wd.take k) l ∧ Kp X w eb mb ab nb lim A wr nb' A' v ∧ l.length ≤ 65536 ∧ Ints X' wr (.slice wa wd.length wcap) wd) (fun _ i _ => wd.length - (intOf i).toNat)
      case atStart => exact ⟨0, l, X, nb, A, by omega, rfl, Hg.out, Hi.out, Hnz.out, by simpa using Hs.out, Hkp.out, hl, Hww.out⟩
      case round =>
        clear hl Hg Hi Hnz Hs Hkp Hww HG1 Hw1
        obtain ⟨k, l, X', nb', A', hk, rfl, hG, hI, hnz, hP, hkp, hl, hW⟩ := hrel
        have HG := hideIt hG
        have HI := hideIt hI
        have Hnz := hideIt hnz
        have HP := hideIt hP
        have Hkp := hideIt hkp
        have HW := hideIt hW
        obtain ⟨na, nc, rfl, _, _, _⟩ := hI
        clear hnz hkp
        by_cases hlt : k < wd.length
        · have hlt' : (k : Int) < (wd.length : Int) := by omega
          obtain ⟨ad', cap', e, _, _, h3⟩ := hW
          cases e
          obtain ⟨g, o, rfl, _, hc⟩ := h3 (fun e => by rw [e] at hlt; cases hlt)
          have cu := hc k hlt
          have Hin : Hid (wd[k] ∈ wd) := List.getElem_mem hlt
          have Hnx : Hid (∀ (B : List Nd) (l z : List Int), ParP B x (wd.take k) l → (0 ≤ wd[k] ∧ wd[k] ≤ 196607) → ParS B wd[k] l z → ParP B x (wd.take (k + 1)) z) := fun B l z h1 h2 h3 => h1.next hlt rfl h2 h3
          generalize wd[k] = c at *
          have Hv := hideIt (hP.valid hG.en.st.ar.wf (hG.le.valid Hx.out))
          have Hpl' := hideIt (hP.plain hG.en.st.ar.wf (hG.le.valid Hx.out) ((PlainR.le HE.out.en.st.ar.wf hG.le Hx.out).2 Hpl.out))
          clear h3 hc hG hP
          by_cases hca : 0 ≤ c ∧ c ≤ 196607
          · have Hca := hideIt hca
            have Hdc : Hid (decide (0 ≤ c ∧ c ≤ 196607) = true) := decide_eq_true hca
            clear hca
            go_wp2_with (go_at_call 79; refine (inAlphabet_walk c _).mono ?_; rintro e w2 ⟨rfl, rfl⟩; rw [Hdc.out])
            have lm4 : mb + 3 < w2.heap.size := Nat.lt_of_lt_of_le lm3 HG.out.ext.size
            go_loopw [11, 36] (fun v i wz => ∃ (j : Nat) (ls : List (List Int)) (X2 : Nat → Prop) (nb2 : Nat) (A2 : List Nd), j ≤ l.length ∧ i = .int .i64 j ∧ ls.length = j ∧ GrX X' w2 eb mb ab nb' lim A' X2 wz nb2 A2 ∧ RX w2.heap.size X2 ab nb2 mb wz v ls.flatten ∧ (∀ i, i < ls.length → Par A2 c (l.getD i 0) (ls.getD i [])) ∧ ls.flatten.length ≤ j * 65536) (fun _ i _ => l.length - (intOf i).toNat)
            case atStart => exact ⟨0, [], X', nb', A', by omega, rfl, rfl, GrX.refl HG.out.es, RX.nil _ _ _ _ _ _, fun i hi => by simp at hi, by simp⟩
            case round =>
              obtain ⟨j, ls, X2, nb2, A2, hj, rfl, hll, hH2, hR2, hD2, hfl⟩ := hrel
              have HH2 := hideIt hH2
              have HR2 := hideIt hR2
              have HD2 := hideIt hD2
              have Hll := hideIt hll
              by_cases hjt : j < l.length
              · have hjt' : (j : Int) < (l.length : Int) := by omega
                obtain ⟨a4, c4, e4, _, _, h4⟩ := hH2.seq HG.out.es HI.out
                cases e4
                obtain ⟨g4, o4, rfl, _, hc4⟩ := h4 (fun e => by rw [e] at hjt; cases hjt)
                have cj := hc4 j hjt
                have eg : l.getD j 0 = l[j] := getD_lt hjt _
                have Heg := hideIt eg
                have Hq1 := hideIt (hH2.le.valid (Hv.out _ (List.getElem_mem hjt)))
                have Hq3 := hideIt ((PlainR.le HG.out.en.st.ar.wf hH2.le (Hv.out _ (List.getElem_mem hjt))).2 (Hpl'.out _ (List.getElem_mem hjt)))
                generalize l[j] = y at *
                clear h4 hc4 eg hH2 hR2 hD2 hll
                go_wp2_with fail
                go_at_call 83
                refine (part_walk Hca.out hlim _ y rfl X2 _ nb2 A2 HH2.out.es Hq1.out Hq3.out).mono ?_
                rintro e w5 ⟨X5, nb5, A5, v5, ev5, hg5, rfl, hh5⟩
                have HH5 := hideIt (HH2.out.trans hg5)
                have HR5 := hideIt (HR2.out.grow lm4 hg5)
                rcases hh5 with ⟨rfl, l5, hI5, hn5, hp5⟩ | ⟨⟨t5, u5, rfl⟩, rfl, hf5⟩
                · have hl5 : l5.length ≤ 65536 := by
                    have h1 := hp5.len hg5.en.st.ar.wf (hg5.le.valid Hq1.out)
                    have h2 := hg5.en.st.ar.len
                    omega
                  have HD5 : Hid (∀ i, i < (ls ++ [l5]).length → Par A5 c (l.getD i 0) ((ls ++ [l5]).getD i [])) := fun i hi => by
                    have hkl := Hll.out
                    by_cases e : i < ls.length
                    · have e1 : (ls ++ [l5]).getD i [] = ls.getD i [] := by
                        simp only [List.getD]
                        rw [List.getElem?_append_left e]
                      rw [e1]
                      have hv : Valid A2 (l.getD i 0) := by
                        rw [getD_lt (by omega : i < l.length)]
                        exact HH2.out.le.valid (Hv.out _ (List.getElem_mem (by omega)))
                      exact (HD2.out i e).le HH2.out.en.st.ar.wf hg5.en.st.ar.wf hg5.le hv
                    · have e2 : i = ls.length := by simp at hi; omega
                      subst e2
                      have e1 : (ls ++ [l5]).getD ls.length [] = l5 := by simp [List.getD]
                      rw [e1, hkl, Heg.out]
                      exact hp5
                  have hfe : (ls ++ [l5]).flatten = ls.flatten ++ l5 := by simp
                  have Hfe := hideIt hfe
                  have hbs : w2.heap.size ≤ w5.heap.size := HH5.out.ext.size
                  have Hln : Hid ((ls ++ [l5]).flatten.length ≤ (j + 1) * 65536) := by show _ ≤ _; rw [hfe, List.length_append]; omega
                  have hfb : ls.flatten.length ≤ 4294967296 := by omega
                  have Hlk : Hid ((ls ++ [l5]).length = j + 1) := by show _ = _; rw [List.length_append, Hll.out]; rfl
                  clear hg5 hp5 hfe cj
                  by_cases hne : l5 = []
                  · subst hne
                    obtain ⟨a6, cap6, rfl, _, _, _⟩ := hI5
                    cases a6 with
                    | none =>
                      obtain ⟨_, rfl⟩ := hn5 0 cap6 rfl
                      have Hown := hideIt HR5.out.own
                      go_wp2_with (at_builtin; refine wpList_append_own_none rfl (.tmp 50) (.tmp 51) 37 rfl w2.heap.size 28 i0 1 Tryz.underlying37 hi0 _ _ _ rfl Hown.out rfl ?_)
                      go_roundw
                      case rel => exact ⟨j + 1, ls ++ [[]], X5, nb5, A5, by omega, by go_num, Hlk.out, HH5.out, by rw [Hfe.out, List.append_nil]; exact HR5.out, HD5.out, Hln.out⟩
                      case measure => simp [intOf]; omega
                    | some a0 =>
                      have Hown := hideIt HR5.out.own
                      go_wp2_with (at_builtin; refine wpList_append_own_at _ rfl (.tmp 50) (.tmp 51) 37 rfl w2.heap.size 28 i0 (.int .i64 0) 1 8 Tryz.underlying37 hi0 hz0 hz1 hz2 rfl (by decide) _ _ _ rfl Hown.out a0 0 cap6 [] rfl rfl (fun j u hu => by simp at hu) (fun u hu => by cases hu) (by unfold maxLen; omega) (by omega) hbs ?_; intro v' w9 hown5 hgrow5 _ hloc5)
                      obtain ⟨r1, r2, r3, r4⟩ := HH5.out.pushed (m := []) HR5.out (Below.refl _ _) hgrow5 hloc5 (by rw [List.append_nil]; simpa using hown5)
                      go_roundw
                      case rel => exact ⟨j + 1, ls ++ [[]], _, nb5, A5, by omega, by go_num, Hlk.out, r1, by rw [Hfe.out]; exact r2, HD5.out, Hln.out⟩
                      case measure => simp [intOf]; omega
                  · obtain ⟨a6, cap6, rfl, _, _, h6⟩ := hI5
                    obtain ⟨g6, o6, rfl, _, hc6⟩ := h6 hne
                    have Hown := hideIt HR5.out.own
                    have Hnews := hideIt (ints_news hc6)
                    clear h6 hc6 hne hn5
                    go_wp2_with (at_builtin; refine wpList_append_own_at _ rfl (.tmp 50) (.tmp 51) 37 rfl w2.heap.size 28 i0 (.int .i64 0) 1 8 Tryz.underlying37 hi0 hz0 hz1 hz2 rfl (by decide) _ _ _ rfl Hown.out ⟨g6, o6, none⟩ l5.length cap6 (l5.map encI) rfl (by simp) Hnews.out (one_ints _) (by unfold maxLen; omega) (by omega) hbs ?_; intro v' w9 hown5 hgrow5 _ hloc5)
                    obtain ⟨r1, r2, r3, r4⟩ := HH5.out.pushed (m := l5) HR5.out (Below.refl _ _) hgrow5 hloc5 (by rw [List.length_append, List.map_append]; exact hown5)
                    go_roundw
                    case rel => exact ⟨j + 1, ls ++ [l5], _, nb5, A5, by omega, by go_num, Hlk.out, r1, by rw [Hfe.out]; exact r2, HD5.out, Hln.out⟩
                    case measure => simp [intOf]; omega
                · clear hg5 cj
                  go_wp2_with fail
                  go_ret2
                  exact ⟨X5, nb5, A5, _, _, HG.out.trans HH5.out, rfl, Or.inr (Or.inr ⟨Hpl.out, ⟨t5, u5, rfl⟩, rfl, hf5⟩)⟩
              · obtain rfl : j = l.length := by omega
                have hpS : ParS A2 c l (Pl.setOf ls.flatten) := ⟨ls, hll, hD2, rfl⟩
                have HpS := hideIt hpS
                have hvA := hH2.le
                have HpN := hideIt (Hnx.out A2 l _ (HP.out.le HG.out.en.st.ar.wf hH2.en.st.ar.wf hH2.le (HG.out.le.valid Hx.out)) Hca.out hpS)
                have hsl : (Pl.setOf ls.flatten).length ≤ 65536 := by
                  have h1 := rising_len (setOf_rising ls.flatten) (hpS.valid hH2.en.st.ar.wf (fun p hp => hH2.le.valid (Hv.out p hp)))
                  have h2 := hH2.en.st.ar.len
                  omega
                have Has := hideIt (asSet_walk hR2.own (by omega))
                clear hH2 hR2 hD2 hll hpS hvA
                go_wp2_with fail
                go_at_call 85
                refine Has.out.mono ?_
                rintro e w5 hp5
                obtain ⟨v5, X5, rfl, hg5, hi5, hn5, _, _, hk5⟩ := HH2.out.asSet HR2.out hp5
                have HG5 := hideIt (HG.out.trans hg5)
                have Hi5 := hideIt hi5
                have Hn5 := hideIt hn5
                have Hk5 := hideIt (hk5.trans HG.out)
                have HW5 := hideIt (hg5.seq HG.out.es HW.out)
                clear hg5 hi5 hn5 hk5 hp5
                go_wp2_with fail
                go_roundw
                case rel => exact ⟨k + 1, _, X5, nb2, A2, by omega, by go_num, HG5.out, Hi5.out, Hn5.out, HpN.out, Hk5.out, hsl, HW5.out⟩
                case measure => simp [intOf]; omega
          · have Hca : Hid (¬ Alph wd) := fun h => hca (h c Hin.out)
            have Hdc : Hid (decide (0 ≤ c ∧ c ≤ 196607) = false) := decide_eq_false hca
            clear hca
            go_wp2_with (go_at_call 79; refine (inAlphabet_walk c _).mono ?_; rintro e w2 ⟨rfl, rfl⟩; rw [Hdc.out])
            go_ret2
            exact ⟨X', nb', A', _, _, HG.out, rfl, Or.inr (Or.inl ⟨Hpl.out, rfl, [], Seq.nil _ _, Hnz0.out, by simp, Kp.nil HG.out, Or.inr ⟨Hca.out, rfl⟩⟩)⟩
        · obtain rfl : k = wd.length := by omega
          clear hG hP hW
          go_wp2_with fail
          go_ret2
          exact ⟨X', nb', A', _, _, HG.out, rfl, Or.inr (Or.inl ⟨Hpl.out, rfl, l, HI.out, Hnz.out, hl, Hkp.out, Or.inl (by have h := HP.out; rw [List.take_length] at h; exact ⟨h.alph, h⟩)⟩)⟩
end Go.Proofs.Qxb6500848aGreatDoor
