/- The reference package's Getc. -/
import Derived.Test.YtgihclflndlomaaEc
namespace Go.Proofs.Ytgihclflndlomaa
open Go.RowKit

def RGetcPost (w : World) (own : Nat → Prop) (bs : Nat) (r : UInt8 × Int × St) (e : Ending) (w' : World) : Prop :=
  e = .returned (.tuple #[byteV r.1, .int .i64 r.2.1]) ∧ RAt' w w' own bs r.2.2

theorem rgetc_shut {w : World} {own : Nat → Prop} {bs : Nat} {S : St} {m : RMem} (h : RAtM w own bs S m) (ho : S.opened = false ∨ S.rd = false) :
    Calls Try.prog 48 #[.pointer (some ⟨bs, 0, none⟩)] w (RGetcPost w own bs (0, 4, S)) := by
  have hpost : RAt' w w own bs S := ⟨own, m, h, Fr.refl _ _⟩
  have Hpost := Lib.hid hpost
  cases ho1 : S.opened with
  | false =>
    have c14 : w.cell? ⟨bs, 14, none⟩ = some (.bool true) := by rw [h.c]; simp [RMem.cells, ho1]
    clear ho ho1 h hpost
    go_enter Try.func48, Try.ntmps48
    go_wp2_with fail
    go_ret2
    exact ⟨rfl, Hpost.out⟩
  | true =>
    have hr : S.rd = false := ho.elim (fun e => by rw [ho1] at e; cases e) id
    have c14 : w.cell? ⟨bs, 14, none⟩ = some (.bool false) := by rw [h.c]; simp [RMem.cells, ho1]
    have c3 : w.cell? ⟨bs, 3, none⟩ = some (.bool false) := by rw [h.c]; simp [RMem.cells, hr]
    clear ho ho1 h hr hpost
    go_enter Try.func48, Try.ntmps48
    go_wp2_with fail
    go_ret2
    exact ⟨rfl, Hpost.out⟩

theorem rgetc_stuck {w : World} {own : Nat → Prop} {bs : Nat} {S : St} {m : RMem} (h : RAtM w own bs S m) (ho : S.opened = true) (hr : S.rd = true) (hf : S.Fit) (x : Int) (he : S.move.2.1 = x) (hx : (x != 0) = true) :
    Calls Try.prog 48 #[.pointer (some ⟨bs, 0, none⟩)] w (RGetcPost w own bs (0, x, S.move.2.2)) := by
  have c14 : w.cell? ⟨bs, 14, none⟩ = some (.bool false) := by rw [h.c]; simp [RMem.cells, ho]
  have c3 : w.cell? ⟨bs, 3, none⟩ = some (.bool true) := by rw [h.c]; simp [RMem.cells, hr]
  have Hm := rmove_calls h hf
  rw [he] at Hm
  have Hm := Lib.hid Hm
  clear ho h hr hf he
  go_enter Try.func48, Try.ntmps48
  go_wp2_with fail
  refine Calls.mono Hm.out ?_
  rintro e w1 ⟨rfl, h1⟩
  have Hpost := Lib.hid h1
  clear h1 Hm
  go_wp2_with fail
  go_ret2
  exact ⟨rfl, Hpost.out⟩

set_option maxRecDepth 100000 in
set_option maxHeartbeats 2000000 in
theorem rgetc_go {w : World} {own : Nat → Prop} {bs : Nat} {S : St} {m : RMem} (h : RAtM w own bs S m) (ho : S.opened = true) (hr : S.rd = true) (hf : S.Fit) (he : S.move.2.1 = 0) (S1 : St) (hS : S.move.2.2 = S1) (hf1 : S1.Ok) (r : UInt8 × Int × St) (hr1 : S1.getc2 = r) :
    Calls Try.prog 48 #[.pointer (some ⟨bs, 0, none⟩)] w (RGetcPost w own bs r) := by
  have c14 : w.cell? ⟨bs, 14, none⟩ = some (.bool false) := by rw [h.c]; simp [RMem.cells, ho]
  have c3 : w.cell? ⟨bs, 3, none⟩ = some (.bool true) := by rw [h.c]; simp [RMem.cells, hr]
  have Hm := rmove_calls h hf
  rw [he, hS] at Hm
  have Hm := Lib.hid Hm
  have Hr := Lib.hid hr1
  clear ho hr hf he hS h hr1
  go_enter Try.func48, Try.ntmps48
  go_wp2_with fail
  refine Calls.mono Hm.out ?_
  rintro e w1 ⟨rfl, own1, m1, h1, hg1⟩
  have hown := h1.os
  clear c14 c3 Hm
  by_cases hbk : S1.back = []
  · obtain ⟨ab, cb, hvb, _, _⟩ := h1.back.shape
    have c10 : w1.cell? ⟨bs, 10, none⟩ = some (.slice ab 0 cb) := by rw [h1.c]; simp [RMem.cells, hvb, hbk]
    obtain ⟨aa, ca, hva, _, _⟩ := h1.ahead.shape
    have c9 : w1.cell? ⟨bs, 9, none⟩ = some (.slice aa S1.ahead.length ca) := by rw [h1.c]; simp [RMem.cells, hva]
    clear hvb hva
    go_upto_if 61 with fail
    obtain ⟨z, hz⟩ : ∃ z, ((S1.ahead.length : Int) == 0) = z := ⟨_, rfl⟩
    simp only [hz]
    have Hz := Lib.hid hz
    clear hz
    go_cut [8] from 62 to 135 (fun s8 wx => ∃ S2, S2.ahead ≠ [] ∧ RAt' w wx own bs S2 ∧ r = (S2.next.1, 0, S2.next.2))
    case first =>
      cases z
      case true =>
        have hah : S1.ahead = [] := by have := Hz.out; simpa using this
        have c12 : w1.cell? ⟨bs, 12, none⟩ = some (.bool S1.endm) := h1.c 12
        have c8 : w1.cell? ⟨bs, 8, none⟩ = some (.int .i64 S1.pos) := h1.c 8
        have c6 : w1.cell? ⟨bs, 6, none⟩ = some (.int .i64 S1.size) := h1.c 6
        obtain ⟨ad, cd, hdv, hdc, hdm⟩ := h1.data.shape
        have e0 : w1.cell? ⟨bs, 0, none⟩ = some (.slice ad S1.data.length cd) := by rw [h1.c]; simp [RMem.cells]; exact hdv
        have f12 := h1.f 12
        have hE : S1.getc2 = if S1.fill.1 ≠ 0 then (0, S1.fill.1, S1.fill.2) else (S1.fill.2.next.1, 0, S1.fill.2.next.2) := by
          unfold St.getc2; rw [if_neg (by simpa using hbk), if_neg (by simpa using hah)]
        have hpos0 := hf1.pos0
        have hpos1 := hf1.pos1
        have hmax1 := hf1.max1
        have hdlen := hf1.dlen
        have hsz1 := hf1.size1
        have hsz2 := hf1.size2
        have Hah := Lib.hid hah
        clear hah
        rw [Hah.out] at hpos0
        simp only [List.length_nil] at hpos0
        by_cases hen : S1.endm = true ∨ (S1.data.length : Int) ≤ S1.pos
        · have hfl : S1.fill = (11, { S1 with endm := true }) := by unfold St.fill; rw [if_pos hen]
          have hpost : ∀ q, RGetcPost w own bs r (.returned (.tuple #[.int .u8 0, .int .i64 11])) ((w1.drewN q).setCell ⟨bs, 12, none⟩ (.bool true)) := fun q => by
            rw [← Hr.out, hE, hfl]
            exact ⟨rfl, own1, m1, (h1.drewN q).setEnd true, (hg1.drewN q).setCell _ _ (hg1.new _ hown)⟩
          have Hpost := Lib.hid hpost
          clear hpost hfl hE h1 hg1 hdv
          by_cases h2 : S1.endm = true
          · rw [h2] at c12
            clear hen
            go_wp2_with fail
            go_quiet (fail)
            go_wp2_with fail
            go_ret2
            exact Hpost.out _
          · have h2' : S1.endm = false := by simpa using h2
            have h3 : decide ((S1.data.length : Int) ≤ S1.pos) = true := decide_eq_true (hen.elim (fun e => absurd e h2) id)
            rw [h2'] at c12
            clear hen
            go_wp2_with fail
            go_quiet (fail)
            go_wp2_with fail
            go_ret2
            exact Hpost.out _
        · have hlt : S1.pos < S1.data.length := by
            by_cases h' : S1.pos < S1.data.length
            · exact h'
            · exact absurd (.inr (by omega)) hen
          have h2 : S1.endm = false := by
            cases e : S1.endm with
            | true => exact absurd (.inl e) hen
            | false => rfl
          rw [h2] at c12
          have h3 : decide ((S1.data.length : Int) ≤ S1.pos) = false := decide_eq_false (by omega)
          have hfl : S1.fill = if S1.fillK = 0 then (14, { S1 with plan := S1.plan.tail, bad := true }) else (0, { S1 with plan := S1.plan.tail, ahead := St.fillD S1, pos := S1.pos + S1.fillK }) := by
            unfold St.fill; rw [if_neg hen]; rfl
          have hwr : IntKind.i64.wrap ((S1.data.length : Int) - S1.pos) = (S1.data.length : Int) - S1.pos := IntWalk.i64_in _ (by omega)
          have hkb : 0 ≤ S1.fillK ∧ S1.fillK ≤ (S1.data.length : Int) - S1.pos := by
            unfold St.fillK
            have := mayN_nonneg S1.plan (min S1.size ((S1.data.length : Int) - S1.pos)) (by omega)
            omega
          have Hfl := Lib.hid hfl
          have HE := Lib.hid hE
          have H2 := Lib.hid h2
          have Hmay := Lib.hid (fun (n : Int) (q : Nat) => rmay_calls n (h1.drewN q))
          clear hen hfl hE h2 hdv
          go_wp2_with fail
          go_quiet (fail)
          rename_i nq _
          go_upto_region 15 with fail
          go_cut [8] from 82 to 100 (fun s8 wx => s8 = .int .i64 S1.fillK ∧ ∃ m', RAtM wx own1 bs { S1 with plan := S1.plan.tail } m' ∧ Fr w wx own own1)
          case first =>
            go_region_held3 (fun w' => w'.cell? ⟨bs, 0, none⟩ = some (.slice ad S1.data.length cd) ∧ w'.cell? ⟨bs, 6, none⟩ = some (.int .i64 S1.size) ∧ w'.cell? ⟨bs, 8, none⟩ = some (.int .i64 S1.pos))
              (first | exact ⟨e0, c6, c8⟩ | exact ⟨d0, d6, d8⟩)
              (first
                | (go_at_call 64; refine (Hmay.out _ _).mono ?_; rintro e w' ⟨rfl, v', h', f'⟩; have d0 : w'.cell? ⟨bs, 0, none⟩ = some (.slice ad S1.data.length cd) := (h'.c 0).trans ((h1.c 0).symm.trans e0); have d6 : w'.cell? ⟨bs, 6, none⟩ = some (.int .i64 S1.size) := h'.c 6; have d8 : w'.cell? ⟨bs, 8, none⟩ = some (.int .i64 S1.pos) := h'.c 8; dsimp only))
            all_goals (go_wp2_with fail; go_meet; exact ⟨rfl, _, h', (hg1.drewN _).trans f'⟩)
          case rest =>
            obtain ⟨rfl, m2, h2, hg2⟩ := hcut
            obtain ⟨k0, k1⟩ := hkb
            obtain ⟨k, hk⟩ := Int.eq_ofNat_of_zero_le k0
            obtain ⟨p, hp⟩ := Int.eq_ofNat_of_zero_le (show 0 ≤ S1.pos by omega)
            rw [hk] at k1 Hfl ⊢
            rw [hp] at k1 hlt
            have f9 := h2.f 9
            have f8 := h2.f 8
            have f13 := h2.f 13
            have c13 : wc.cell? ⟨bs, 13, none⟩ = some (.bool S1.bad) := h2.c 13
            have c8 : wc.cell? ⟨bs, 8, none⟩ = some (.int .i64 p) := by rw [← hp]; exact h2.c 8
            have Hk := Lib.hid hk
            have Hp := Lib.hid hp
            clear Hmay c6 c12 f12 e0 h3 hwr k0 hk hp hpos0 hpos1
            by_cases hk0 : k = 0
            · subst hk0
              have hpost : RGetcPost w own bs r (.returned (.tuple #[.int .u8 0, .int .i64 14])) (wc.setCell ⟨bs, 13, none⟩ (.bool true)) := by
                rw [← Hr.out, HE.out, Hfl.out]
                exact ⟨rfl, own1, _, h2.setBad true, hg2.setCell _ _ (hg1.new _ hown)⟩
              have Hpost := Lib.hid hpost
              clear hpost h2 hg2 h1 hg1
              go_wp2_with fail
              go_ret2
              exact Hpost.out
            · have hk1 : ((k : Int) == 0) = false := by simp; omega
              obtain ⟨db, dc, hdv, hdc, hdm, hdo⟩ := h2.data.block (fun e => by simp only at e; rw [e] at hlt; simp at hlt; omega)
              simp only at hdv hdc
              have e0 : wc.cell? ⟨bs, 0, none⟩ = some (.slice (some ⟨db, 0, none⟩) S1.data.length dc) := by rw [h2.c]; simp [RMem.cells]; exact hdv
              have hrd := h2.data.rd
              simp only at hrd
              rw [hdv] at hrd
              have hkp : p + k ≤ S1.data.length := by omega
              obtain ⟨a5, n5, c5, W5, hrun, a5', n5', c5', he5, hrow, hbl⟩ := app_new bytesElem (wc.drewN 1) ((wc.drewN 1).alloc (.cells #[] 5)) ((Below.refl _ _).alloc (Nat.le_refl _) _) _ (some ⟨wc.heap.size, 0, none⟩) (.slice (some ⟨db, p, none⟩) k (dc - p)) ((S1.data.drop p).take k) ((hrd.part p k p (by omega) hkp).keep (fun b _ hb => Below.heap_alloc _ _ _ hb) (fun _ h _ => h)) 22 (by rw [List.length_take, List.length_drop]; omega) (by decide)
              cases he5
              have Hrun := Lib.hid hrun
              have hpn : ¬ dc = p := by omega
              have hpd : p ≤ S1.data.length := by omega
              have hpk : p + k ≤ dc := by omega
              have hs0 : (0 : Int) ≤ ↑p + ↑k := by omega
              have hs1' : ((p : Int) + ↑k) ≤ ↑dc := by omega
              have hs2' : ((p : Int) + ↑k).toNat = p + k := by omega
              have hs3 : p ≤ p + k := by omega
              have hs4 : p + k - p = k := by omega
              have hsum : IntKind.i64.wrap ((p : Int) + ↑k) = ↑p + ↑k := IntWalk.i64_in _ (by omega)
              have lbs : bs < wc.heap.size := h2.lt _ h2.os
              have e0a : (wc.alloc (.cells #[] 5)).cell? ⟨bs, 0, none⟩ = some (.slice (some ⟨db, 0, none⟩) S1.data.length dc) := (World.cell?_alloc_lt _ _ ⟨bs, 0, none⟩ lbs).trans e0
              have c8a : (wc.alloc (.cells #[] 5)).cell? ⟨bs, 8, none⟩ = some (.int .i64 p) := (World.cell?_alloc_lt _ _ ⟨bs, 8, none⟩ lbs).trans c8
              have g9 : W5.cell? ⟨bs, 9, none⟩ = some m2.ahead := (hbl.cell (p := ⟨bs, 9, none⟩) lbs).trans (h2.c 9)
              have g0 : W5.cell? ⟨bs, 0, none⟩ = some (.slice (some ⟨db, 0, none⟩) S1.data.length dc) := (hbl.cell (p := ⟨bs, 0, none⟩) lbs).trans e0
              have gf9 : W5.frozen? ⟨bs, 9, none⟩ = false := (hbl.frozen (p := ⟨bs, 9, none⟩) lbs).trans f9
              have g8 : W5.cell? ⟨bs, 8, none⟩ = some (.int .i64 p) := (hbl.cell (p := ⟨bs, 8, none⟩) lbs).trans c8
              have gf8 : W5.frozen? ⟨bs, 8, none⟩ = false := (hbl.frozen (p := ⟨bs, 8, none⟩) lbs).trans f8
              have h5 := ((h2.drewN 1).grow hbl).setAhead (.slice a5 n5 c5) _ (hrow.rd.keep (fun _ _ _ => rfl) (fun b hb _ => (h2.drewN 1).newOnly b hb.1 hb.2))
              have H6 := Lib.hid (h5.setPos (↑p + ↑k))
              have HF6 := Lib.hid ((((hg2.drewN 1).grow hbl).setCell ⟨bs, 9, none⟩ (.slice a5 n5 c5) (hg1.new _ hown)).setCell ⟨bs, 8, none⟩ (.int .i64 (↑p + ↑k)) (hg1.new _ hown))
              have hfe : S1.fill.1 = 0 := by rw [Hfl.out, if_neg (by omega)]
              have hf2 : S1.fill.2 = { S1 with plan := S1.plan.tail, ahead := (S1.data.drop p).take k, pos := ↑p + ↑k } := by
                rw [Hfl.out, if_neg (by omega)]
                unfold St.fillD
                rw [Hk.out, Hp.out]
                rfl
              have hr2 : r = (S1.fill.2.next.1, 0, S1.fill.2.next.2) := by rw [← Hr.out, HE.out, if_neg (by simpa using hfe)]
              have Hne := Lib.hid (fill_ahead S1 hf1 hfe)
              have Hf2 := Lib.hid hf2
              have Hr2 := Lib.hid hr2
              clear hrun h5 hrow hbl h2 hg2 h1 hg1 hdv hrd hdo hf2 hr2 hfe
              go_upto_region 19 with fail
              go_cut [] from 106 to 126 (fun wx => wx = W5.setCell ⟨bs, 9, none⟩ (.slice a5 n5 c5))
              case first =>
                go_region_held3 (fun w' => w'.cell? ⟨bs, 0, none⟩ = some (.slice (some ⟨db, 0, none⟩) S1.data.length dc) ∧ w'.cell? ⟨bs, 8, none⟩ = some (.int .i64 p))
                  (first | exact ⟨e0, c8⟩ | exact ⟨e0a, c8a⟩ | exact ⟨g0, g8⟩ | exact ⟨(cell_set_off _ (by decide)).trans g0, (cell_set_off _ (by decide)).trans g8⟩)
                  ((refine step_append_run rfl (.tmp 107) (.tmp 123) 22 22 rfl _ _ rfl rfl (.slice a5 n5 c5) W5 (Eq.trans ?_ Hrun.out) ?_; focus kernel_rfl))
                all_goals (go_wp2_with fail; go_meet; first | rfl | trace_state)
              case rest =>
                subst hcut
                go_wp2_with fail
                go_meet
                refine ⟨S1.fill.2, Hne.out, ?_, Hr2.out⟩
                rw [Hf2.out]
                exact ⟨_, _, H6.out, HF6.out⟩
      case false =>
        have hah : S1.ahead ≠ [] := fun e => by have := Hz.out; rw [e] at this; cases this
        have hE : S1.getc2 = (S1.next.1, 0, S1.next.2) := by
          unfold St.getc2; rw [if_neg (by simpa using hbk), if_pos (by simpa using hah)]
        have HE := Lib.hid hE
        clear hE
        go_wp2_with fail
        go_meet
        exact ⟨S1, hah, ⟨own1, m1, h1, hg1⟩, by rw [← Hr.out, HE.out]⟩
    case rest =>
      obtain ⟨S2, hah, ⟨own2, m2, h2, hg2⟩, hE⟩ := hcut
      have HE := Lib.hid hE
      clear c10 c9 hbk Hr hE Hz h1 hg1
      obtain ⟨b, off, c, hv, hlc, hcm, hob, hcell⟩ := h2.ahead.some hah
      obtain ⟨x, l, hl⟩ : ∃ x l, S2.ahead = x :: l := by cases hq : S2.ahead with | nil => exact absurd hq hah | cons x t => exact ⟨x, t, rfl⟩
      have c0 : wc.cell? ⟨b, off, none⟩ = some (.int .u8 (x.toNat : Int)) := by have := hcell 0 x (by rw [hl]; rfl); rwa [Nat.add_zero] at this
      have hrd := h2.ahead
      rw [hv, hl] at hrd
      have Hrd := Lib.hid hrd.tail
      rw [List.length_cons, Nat.add_sub_cancel] at Hrd
      have hcl : l.length + 1 ≤ c := by rw [hl] at hlc; simpa using hlc
      have c9 : wc.cell? ⟨bs, 9, none⟩ = some (.slice (some ⟨b, off, none⟩) (l.length + 1) c) := by rw [h2.c]; simp [RMem.cells, hv, hl]
      have f9 := h2.f 9
      unfold maxLen at hcm
      have hE2 : r = (x, 0, { S2 with ahead := l }) := by rw [HE.out]; unfold St.next; rw [hl]; rfl
      have hpost : RGetcPost w own bs r (.returned (.tuple #[.int .u8 (x.toNat : Int), .int .i64 0])) (wc.setCell ⟨bs, 9, none⟩ (.slice (some ⟨b, tlOff off c, none⟩) l.length (c - 1))) := by
        rw [hE2]
        exact ⟨rfl, own2, _, h2.setAhead _ _ Hrd.out, hg2.setCell _ _ (hg2.new _ h2.os)⟩
      have Hpost := Lib.hid hpost
      clear hpost hE2 hrd hcell hv h2 hg2
      generalize hlen : l.length = n at *
      clear hlen
      have hlt2 : (0 : Int) < ↑n + 1 := by omega
      have hlt3 : (1 : Int) ≤ ↑n + 1 := by omega
      by_cases h1c : c = 1
      · subst h1c
        obtain rfl : n = 0 := by omega
        have ht : tlOff off 1 = off := by unfold tlOff; rw [if_pos rfl]
        rw [ht] at Hpost
        clear ht
        go_wp2_with fail
        go_ret2
        exact Hpost.out
      · have h1c' : 1 < c := by omega
        have ht : tlOff off c = off + 1 := by unfold tlOff; rw [if_neg h1c]
        rw [ht] at Hpost
        clear ht
        go_wp2_with fail
        go_ret2
        exact Hpost.out
  · obtain ⟨b, off, c, hv, hlc, hcm, hob, hcell⟩ := h1.back.some hbk
    obtain ⟨k, hk⟩ : ∃ k, S1.back.length = k + 1 := by cases hq : S1.back with | nil => exact absurd hq hbk | cons x t => exact ⟨t.length, rfl⟩
    obtain ⟨x, hx⟩ : ∃ x, S1.back.getLastD 0 = x := ⟨_, rfl⟩
    have hlast : w1.cell? ⟨b, off + k, none⟩ = some (.int .u8 (x.toNat : Int)) := by
      rw [← hx]
      exact hcell k (S1.back.getLastD 0) (by rw [List.getLastD_eq_getLast?, List.getLast?_eq_getElem?, hk, Nat.add_sub_cancel]; rw [List.getElem?_eq_getElem (by omega)]; rfl)
    have c10 : w1.cell? ⟨bs, 10, none⟩ = some (.slice (some ⟨b, off, none⟩) (k + 1) c) := by rw [h1.c]; simp [RMem.cells, hv, hk]
    have f10 := h1.f 10
    have hk16 : (k : Int) ≤ 16 := by have := hf1.back16; omega
    have hwr : IntKind.i64.wrap (k : Int) = k := IntWalk.i64_in _ (by omega)
    have hkc : k ≤ c := by omega
    have hlt2 : (k : Int) < ↑k + 1 := by omega
    have hrd := h1.back
    rw [hv] at hrd
    have Hrd := Lib.hid (hrd.front)
    rw [hk, Nat.add_sub_cancel] at Hrd
    have hE : r = (S1.back.getLastD 0, 0, { S1 with back := S1.back.dropLast }) := by rw [← Hr.out]; unfold St.getc2; rw [if_pos hbk]
    have hpost : RGetcPost w own bs r (.returned (.tuple #[.int .u8 (x.toNat : Int), .int .i64 0])) (w1.setCell ⟨bs, 10, none⟩ (.slice (some ⟨b, off, none⟩) k c)) := by
      rw [hE, hx]
      exact ⟨rfl, own1, _, h1.setBack _ _ Hrd.out, hg1.setCell _ _ (hg1.new _ hown)⟩
    have Hpost := Lib.hid hpost
    clear hcell hv hrd hk hpost hE h1 hg1 hx
    go_wp2_with fail
    go_ret2
    exact Hpost.out

/-- Getc of the reference computes what the plain model says. -/
theorem rgetc_calls {w : World} {own : Nat → Prop} {bs : Nat} {S : St} {m : RMem} (h : RAtM w own bs S m) (hok : S.Ok) :
    Calls Try.prog 48 #[.pointer (some ⟨bs, 0, none⟩)] w (RGetcPost w own bs S.getc) := by
  unfold St.getc
  by_cases ho : S.opened = false
  · rw [if_pos ho]; exact rgetc_shut h (.inl ho)
  · have ho' : S.opened = true := by simpa using ho
    rw [if_neg ho]
    by_cases hr : S.rd = false
    · rw [if_pos hr]; exact rgetc_shut h (.inr hr)
    · have hr' : S.rd = true := by simpa using hr
      rw [if_neg hr]
      by_cases he : S.move.2.1 = 0
      · rw [if_neg (by simpa using he)]
        exact rgetc_go h ho' hr' hok.fit he S.move.2.2 rfl (move_ok S hok).1 _ rfl
      · rw [if_pos he]
        exact rgetc_stuck h ho' hr' hok.fit _ rfl (by simpa using he)
end Go.Proofs.Ytgihclflndlomaa
