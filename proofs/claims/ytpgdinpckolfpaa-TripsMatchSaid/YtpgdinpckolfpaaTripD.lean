/- Contract: road.trips: the least sums of prices from a site. -/
import Derived.Test.YtpgdinpckolfpaaTripC
import Derived.Test.YtpgdinpckolfpaaRdG
import Derived.BigQuiet
namespace Go.Proofs.Ytpgdinpckolfpaa
open Go.RowKit
attribute [local go_sem ↓] Go.wp_at_zero Go.wp_at_succ
attribute [local go_sem] run_store_float

/-- the roads, plainly -/
def plR (l : List RoR) : List (Nat × Nat × Nat) := l.map fun r => (r.a.toNat, r.b.toNat, r.p)
theorem plR_take {l : List RoR} {i : Nat} (h : i < l.length) : plR (l.take (i + 1)) = plR (l.take i) ++ [(l[i].a.toNat, l[i].b.toNat, l[i].p)] := by
  unfold plR
  rw [List.take_succ_eq_append_getElem h, List.map_append]
  rfl
theorem plR_mem {l : List RoR} {i : Nat} (h : i < l.length) : (l[i].a.toNat, l[i].b.toNat, l[i].p) ∈ plR l := List.mem_map.2 ⟨l[i], List.getElem_mem h, rfl⟩
/-- right roads -/
structure RoOk (N : Nat) (l : List RoR) : Prop where
  tr : TrOk N (plR l)
  nn : ∀ i (h : i < l.length), 0 ≤ l[i].a ∧ l[i].a < N ∧ 0 ≤ l[i].b ∧ l[i].b < N ∧ l[i].a ≠ l[i].b
theorem read_mx : Ieee.single.read 2139095039 = .number false 16777215 104 := by decide +kernel
theorem read_mn : Ieee.single.read 4286578687 = .number true 16777215 104 := by decide +kernel
theorem fin_Fin {b : Nat} (h : finB b = true) : Fin b := by
  unfold Fin
  rcases Nat.lt_or_ge (b % 2147483648) 2139095040 with h1 | h1
  · exact h1
  · exfalso
    rcases Nat.lt_or_eq_of_le h1 with h2 | h2
    · have hn : nanB b = true := by
        show (Ieee.single.read b).isNaN = true
        unfold Ieee.Format.read
        rw [single_sign, single_binade, single_inf]
        dsimp only
        rw [if_neg (by omega), if_neg (by omega), if_neg (by omega)]
        rfl
      rw [fin_not_nan h] at hn
      cases hn
    · have hr : Ieee.single.read b = .infinity (b / 2147483648 % 2 == 1) := by
        unfold Ieee.Format.read
        rw [single_sign, single_binade, single_inf]
        dsimp only
        rw [if_neg (by omega), if_neg (by omega), if_pos h2.symm]
      generalize (b / 2147483648 % 2 == 1) = sg at hr
      have e1 : ord b 2139095039 = some (if sg then .lt else .gt) := by
        show Ieee.single.order b 2139095039 = _
        unfold Ieee.Format.order
        rw [hr, read_mx]
        rfl
      have e2 : ord b 4286578687 = some (if sg then .lt else .gt) := by
        show Ieee.single.order b 4286578687 = _
        unfold Ieee.Format.order
        rw [hr, read_mn]
        rfl
      unfold finB at h
      rw [e1, e2] at h
      cases sg <;> simp at h
theorem roadE_zero {many : Int} {r : RoR} (h : roadE many r = 0) : 0 ≤ r.a ∧ r.a < many ∧ 0 ≤ r.b ∧ r.b < many ∧ r.a ≠ r.b ∧ PriB r.p := by
  unfold roadE at h
  split at h
  · cases h
  · split at h
    · cases h
    · split at h
      · cases h
      · split at h
        · cases h
        · rename_i h1 h2 h3 h4
          have hF := fin_Fin (b := r.p) (by simpa using h3)
          refine ⟨by omega, by omega, by omega, by omega, h2, hF, ?_⟩
          have h5 : lt r.p 0 = false := by simpa using h4
          rw [lt_val hF (bd_Fin zero_bd (by omega))] at h5
          have h6 : ¬ valI r.p < valI 0 := by simpa using h5
          rw [val_zero] at h6
          omega
theorem roadsI_zero {many : Int} : ∀ {l : List RoR}, roadsI many l = 0 → ∀ i (h : i < l.length), roadE many l[i] = 0
  | r :: t, h, 0, _ => by
    unfold roadsI at h
    split at h
    · exact h
    · rename_i h1
      show roadE many r = 0
      omega
  | r :: t, h, i + 1, hi => by
    unfold roadsI at h
    split at h
    · rename_i h1
      exact absurd h h1
    · exact roadsI_zero h i (by simpa using hi)
theorem roadsE_zero {N : Nat} {many : Int} {l : List RoR} (hN : many = N) (h : roadsE many l = 0) : 1 ≤ N ∧ N ≤ 24 ∧ l.length ≤ 1000 ∧ RoOk N l := by
  unfold roadsE at h
  split at h
  · cases h
  · split at h
    · cases h
    · have hz := roadsI_zero h
      refine ⟨by omega, by omega, by omega, ⟨fun a b p hm => ?_, fun i hi => ?_⟩⟩
      · obtain ⟨r, hr, e⟩ := List.mem_map.1 hm
        obtain ⟨i, hi, rfl⟩ := List.mem_iff_getElem.1 hr
        obtain ⟨h1, h2, h3, h4, h5, h6⟩ := roadE_zero (hz i hi)
        injection e with e1 e2
        injection e2 with e2 e3
        subst e1; subst e2; subst e3
        exact ⟨by omega, by omega, by omega, h6⟩
      · obtain ⟨h1, h2, h3, h4, h5, h6⟩ := roadE_zero (hz i hi)
        exact ⟨h1, by omega, h3, by omega, h5⟩
/-- the sums, the sites that are reached, and those that are done, in memory -/
structure TM (w0 w : World) (go gs gd N : Nat) (done is : Nat → Bool) (v : Nat → Nat) : Prop where
  og : Bk w go 27 (flo N v)
  eg : Bk w gs 4 (bools N is)
  dg : Bk w gd 4 (bools N done)
  n1 : gd ≠ gs
  b1 : w0.heap.size ≤ go
  b2 : w0.heap.size ≤ gs
  b3 : w0.heap.size ≤ gd
  x : Ext w0 w
section
variable {w0 w : World} {go gs gd N : Nat} {done is : Nat → Bool} {v : Nat → Nat}
theorem TM.step (h : TM w0 w go gs gd N done is v) {w' : World} (hx : Ext w w') : TM w0 w' go gs gd N done is v := ⟨h.og.ext hx, h.eg.ext hx, h.dg.ext hx, h.n1, h.b1, h.b2, h.b3, h.x.trans hx⟩
theorem TM.mark (h : TM w0 w go gs gd N done is v) (k : Nat) : TM w0 (w.setCell ⟨gd, k, none⟩ (.bool true)) go gs gd N (updF done k true) is v := by
  have e1 := Bk.set h.dg k (.bool true)
  rw [bools_set] at e1
  exact ⟨h.og.far (Bk.ne h.og h.dg (by decide)) _, h.eg.far h.n1.symm _, e1, h.n1, h.b1, h.b2, h.b3, h.x.setCell (p := ⟨gd, k, none⟩) h.b3 _⟩
theorem TM.markE (h : TM w0 w go gs gd N done is v) (k : Nat) : TM w0 (w.setCell ⟨gs, k, none⟩ (.bool true)) go gs gd N done (updF is k true) v := by
  have e1 := Bk.set h.eg k (.bool true)
  rw [bools_set] at e1
  exact ⟨h.og.far (Bk.ne h.og h.eg (by decide)) _, e1, h.dg.far h.n1 _, h.n1, h.b1, h.b2, h.b3, h.x.setCell (p := ⟨gs, k, none⟩) h.b2 _⟩
theorem TM.put1 (h : TM w0 w go gs gd N done is v) (k x : Nat) : TM w0 (w.setCell ⟨go, k, none⟩ (.float .f32 x)) go gs gd N done is (updF v k x) := by
  have e1 := Bk.set h.og k (.float .f32 x)
  rw [flo_set] at e1
  exact ⟨e1, h.eg.far (Bk.ne h.eg h.og (by decide)) _, h.dg.far (Bk.ne h.dg h.og (by decide)) _, h.n1, h.b1, h.b2, h.b3, h.x.setCell (p := ⟨go, k, none⟩) h.b1 _⟩
theorem TM.put (h : TM w0 w go gs gd N done is v) (k x : Nat) : TM w0 ((w.setCell ⟨go, k, none⟩ (.float .f32 x)).setCell ⟨gs, k, none⟩ (.bool true)) go gs gd N done (updF is k true) (updF v k x) := (h.put1 k x).markE k
theorem TM.c1 (h : TM w0 w go gs gd N done is v) {k : Nat} (hk : k < N) : w.cell? ⟨go, k, none⟩ = some (.float .f32 (v k)) := by rw [h.og.cell]; exact flo_get _ hk
theorem TM.c2 (h : TM w0 w go gs gd N done is v) {k : Nat} (hk : k < N) : w.cell? ⟨gs, k, none⟩ = some (.bool (is k)) := by rw [h.eg.cell]; exact bools_get _ hk
theorem TM.c3 (h : TM w0 w go gs gd N done is v) {k : Nat} (hk : k < N) : w.cell? ⟨gd, k, none⟩ = some (.bool (done k)) := by rw [h.dg.cell]; exact bools_get _ hk
end
/-- the best site among the first i -/
def BS (done is : Nat → Bool) (v : Nat → Nat) (i : Nat) (best : Int) : Prop :=
  (best = -1 ∧ ∀ j, j < i → is j = true → done j = true) ∨ (∃ k : Nat, best = k ∧ k < i ∧ is k = true ∧ done k = false ∧ ∀ j, j < i → is j = true → done j = false → v k ≤ v j)
section
variable {done is : Nat → Bool} {v : Nat → Nat} {i : Nat} {best : Int}
theorem BS.no (h : BS done is v i best) (hi : is i = true → done i = true) : BS done is v (i + 1) best := by
  rcases h with ⟨h1, h2⟩ | ⟨k, h1, h2, h3, h4, h5⟩
  · refine .inl ⟨h1, fun j hj hs => ?_⟩
    by_cases e : j = i
    · subst e; exact hi hs
    · exact h2 j (by omega) hs
  · refine .inr ⟨k, h1, by omega, h3, h4, fun j hj hs hd => ?_⟩
    by_cases e : j = i
    · subst e; rw [hi hs] at hd; cases hd
    · exact h5 j (by omega) hs hd
theorem BS.first (h : BS done is v i (-1)) (hs : is i = true) (hd : done i = false) : BS done is v (i + 1) (i : Int) := by
  rcases h with ⟨_, h2⟩ | ⟨k, h1, _⟩
  · refine .inr ⟨i, rfl, by omega, hs, hd, fun j hj hsj hdj => ?_⟩
    by_cases e : j = i
    · subst e; exact Nat.le_refl _
    · rw [h2 j (by omega) hsj] at hdj; cases hdj
  · omega
theorem BS.less {k : Nat} (h : BS done is v i (k : Int)) (hs : is i = true) (hd : done i = false) (hl : v i < v k) : BS done is v (i + 1) (i : Int) := by
  rcases h with ⟨h1, h2⟩ | ⟨k', h1, h2, h3, h4, h5⟩
  · omega
  · obtain rfl : k = k' := by omega
    refine .inr ⟨i, rfl, by omega, hs, hd, fun j hj hsj hdj => ?_⟩
    by_cases e : j = i
    · subst e; exact Nat.le_refl _
    · have := h5 j (by omega) hsj hdj
      omega
theorem BS.more {k : Nat} (h : BS done is v i (k : Int)) (hl : ¬ v i < v k) : BS done is v (i + 1) (k : Int) := by
  rcases h with ⟨h1, h2⟩ | ⟨k', h1, h2, h3, h4, h5⟩
  · omega
  · obtain rfl : k = k' := by omega
    refine .inr ⟨k, rfl, by omega, h3, h4, fun j hj hsj hdj => ?_⟩
    by_cases e : j = i
    · subst e; omega
    · exact h5 j (by omega) hsj hdj
end
set_option maxRecDepth 100000 in
set_option maxHeartbeats 12800000 in
theorem trips_any (N src : Nat) (A : Option Addr) (n c : Nat) (l : List RoR) (w : World) (hn : l.length = n) (hV : Rd w A (rocells l)) (h1 : 1 ≤ N) (h24 : N ≤ 24) (hn3 : n ≤ 1000) (hl : RoOk N l) (hs : src < N) :
    Calls Try.prog 83 #[.int .i64 (N : Int), .slice A n c, .int .i64 (src : Int)] w fun e w' => ∃ go gs is v, e = .returned (.tuple #[.slice (some ⟨go, 0, none⟩) N N, .slice (some ⟨gs, 0, none⟩) N N]) ∧
      w.heap.size ≤ go ∧ w.heap.size ≤ gs ∧ Bk w' go 27 (flo N v) ∧ Bk w' gs 4 (bools N is) ∧ TLe N (plR l) src is v ∧ Ext w w' := by
  have mb := mk_bool N (by omega)
  have mf := mk_flo N (by omega)
  have Hn := hidA hn
  have HV := fun (w' : World) (h : Ext w w') => hidA (hV.ext h)
  have Hl := hidA hl
  clear hn hV hl
  go_enter Try.func83, Try.ntmps83
  go_upto_region 1 with fail
  have j0 : (0 : Int) ≤ src := by omega
  have j1 : (src : Int) < N := by omega
  go_cut [8, 9, 10] (fun s8 s9 s10 wx => ∃ go gs gd : Nat, s8 = Value.slice (some ⟨go, 0, none⟩) N N ∧ s9 = Value.slice (some ⟨gs, 0, none⟩) N N ∧ s10 = Value.slice (some ⟨gd, 0, none⟩) N N ∧ TM w wx go gs gd N (fun _ => false) (fun _ => false) (fun _ => 0))
  case first =>
    go_region
    all_goals
      go_wp2_with fail
      go_meet
      case rel =>
        apply Exists.intro
        apply Exists.intro
        apply Exists.intro
        refine ⟨rfl, rfl, rfl, ⟨?k1, ?k2, ?k3, ?k4, ?k5, ?k6, ?k7, (by repeat (first | exact Ext.refl _ | assumption | refine Ext.setCell ?_ (by first | (simp; done) | (simp; omega)) _ | refine Ext.drewN ?_ _ | refine Ext.alloc ?_ _ | refine Ext.drew ?_ | refine Ext.trans ?_ (by assumption)))⟩⟩
        case k1 => first | (refine Bk.drew (Bk.new' ?_); (first | rfl | (simp; done))) | (refine Bk.drew ((Bk.new' ?_).alloc _); (first | rfl | (simp; done))) | (refine Bk.drew (((Bk.new' ?_).alloc _).alloc _); (first | rfl | (simp; done)))
        case k2 => first | (refine Bk.drew (Bk.new' ?_); (first | rfl | (simp; done))) | (refine Bk.drew ((Bk.new' ?_).alloc _); (first | rfl | (simp; done))) | (refine Bk.drew (((Bk.new' ?_).alloc _).alloc _); (first | rfl | (simp; done)))
        case k3 => first | (refine Bk.drew (Bk.new' ?_); (first | rfl | (simp; done))) | (refine Bk.drew ((Bk.new' ?_).alloc _); (first | rfl | (simp; done))) | (refine Bk.drew (((Bk.new' ?_).alloc _).alloc _); (first | rfl | (simp; done)))
        case k4 => first | omega | (simp; done) | (simp; omega)
        case k5 => first | exact Nat.le_refl _ | omega | (simp; done) | (simp; omega)
        case k6 => first | exact Nat.le_refl _ | omega | (simp; done) | (simp; omega)
        case k7 => first | exact Nat.le_refl _ | omega | (simp; done) | (simp; omega)
  case rest =>
    obtain ⟨go, gs, gd, rfl, rfl, rfl, hM⟩ := hcut
    clear mb mf
    have c0 := hM.c2 hs
    have f0 := hM.eg.frozen src
    have HM := hidA (hM.markE src)
    have HD := hidA (TD.start N (plR l) src)
    clear hM
    go_upto_region 3 with fail
    clear c0 f0
    generalize wc.setCell ⟨gs, src, none⟩ (.bool true) = w1 at *
    have hle := hidA (left_le N (fun _ => false))
    go_loopg [11] (N + 1) (fun gk s11 wr => ∃ (done is : Nat → Bool) (v : Nat → Nat), TM w wr go gs gd N done is v ∧ TD N (plR l) src done is v ∧ left N done + 1 ≤ gk ∧ s11 = s11)
    case atStart => exact ⟨_, _, _, HM.out, HD.out, by have := hle.out; omega, rfl⟩
    case round =>
      clear HM HD hle
      obtain ⟨done, is, v, hM, hD, hgk, _⟩ := hrel
      have HD := hidA hD
      have Hgk := hidA hgk
      have hM0 := hM
      clear hD hgk
      go_upto_region 5 with fail
      go_loopw [11, 27] (fun s11 s27 wx => ∃ (i : Nat) (best : Int), i ≤ N ∧ s27 = .int .i64 i ∧ s11 = .int .i64 best ∧ BS done is v i best ∧ TM w wx go gs gd N done is v) (fun _ s27 _ => N - (intOf s27).toNat)
      case atStart => exact ⟨0, -1, Nat.zero_le _, rfl, rfl, .inl ⟨rfl, fun _ h => absurd h (Nat.not_lt_zero _)⟩, hM0⟩
      case round =>
        clear hM hM0
        obtain ⟨i, best, hi, rfl, rfl, hB, hM⟩ := hrel
        by_cases hin : i < N
        · have Hin := hidA hin
          have c1 := hM.c1 hin
          have c2 := hM.c2 hin
          have c3 := hM.c3 hin
          have i0 : (0 : Int) ≤ i := by omega
          have i1 : (i : Int) < N := by omega
          have HB := hidA hB
          have HM := hidA hM
          clear hB
          cases hsi : is i
          · rw [hsi] at c2
            have HB2 := hidA (HB.out.no (fun h => by rw [hsi] at h; cases h))
            clear hsi hM hi hin
            go_upto_region 7 with fail
            go_quiet (fail)
            clear c1 c2 c3
            go_wp2
            go_roundw
            case rel => exact ⟨i + 1, best, Hin.out, (by first | rfl | go_num), rfl, HB2.out, HM.out.step (by repeat (first | exact Ext.refl _ | assumption | refine Ext.setCell ?_ (by first | (simp; done) | (simp; omega)) _ | refine Ext.drewN ?_ _ | refine Ext.alloc ?_ _ | refine Ext.drew ?_ | refine Ext.trans ?_ (by assumption)))⟩
            case measure => exact nxt_c Hin.out
          · rw [hsi] at c2
            cases hdi : done i
            · rw [hdi] at c3
              rcases HB.out with ⟨hb, _⟩ | ⟨k, hb, hk, hsk, hdk, _⟩
              · subst hb
                have HB2 := hidA (HB.out.first hsi hdi)
                clear hsi hdi hM hi hin
                go_upto_region 7 with fail
                go_quiet (fail)
                clear c1 c2 c3
                go_wp2
                go_roundw
                case rel => exact ⟨i + 1, i, Hin.out, (by first | rfl | go_num), rfl, HB2.out, HM.out.step (by repeat (first | exact Ext.refl _ | assumption | refine Ext.setCell ?_ (by first | (simp; done) | (simp; omega)) _ | refine Ext.drewN ?_ _ | refine Ext.alloc ?_ _ | refine Ext.drew ?_ | refine Ext.trans ?_ (by assumption)))⟩
                case measure => exact nxt_c Hin.out
              · subst hb
                have c4 := hM.c1 (show k < N by omega)
                have dk : decide ((k : Int) < 0) = false := decide_eq_false (by omega)
                have k0 : (0 : Int) ≤ k := by omega
                have k1 : (k : Int) < N := by omega
                have hlt := sum_lt (HD.out.s.ob i hin) (HD.out.s.ob k (by omega))
                cases hq : lt (v i) (v k)
                · have hq' : (FloatKind.f32.format.order (v i) (v k) == some .lt) = false := hq
                  rw [hq] at hlt
                  have HB2 := hidA (HB.out.more (by simpa using hlt.symm))
                  clear hsi hdi hM hi hin hk hsk hdk hlt hq
                  generalize v i = x at *
                  generalize v k = y at *
                  go_upto_region 7 with fail
                  go_quiet (fail)
                  clear c1 c2 c3 c4
                  go_wp2
                  go_roundw
                  case rel => exact ⟨i + 1, k, Hin.out, (by first | rfl | go_num), rfl, HB2.out, HM.out.step (by repeat (first | exact Ext.refl _ | assumption | refine Ext.setCell ?_ (by first | (simp; done) | (simp; omega)) _ | refine Ext.drewN ?_ _ | refine Ext.alloc ?_ _ | refine Ext.drew ?_ | refine Ext.trans ?_ (by assumption)))⟩
                  case measure => exact nxt_c Hin.out
                · have hq' : (FloatKind.f32.format.order (v i) (v k) == some .lt) = true := hq
                  rw [hq] at hlt
                  have HB2 := hidA (HB.out.less hsi hdi (by simpa using hlt.symm))
                  clear hsi hdi hM hi hin hk hsk hdk hlt hq
                  generalize v i = x at *
                  generalize v k = y at *
                  go_upto_region 7 with fail
                  go_quiet (fail)
                  clear c1 c2 c3 c4
                  go_wp2
                  go_roundw
                  case rel => exact ⟨i + 1, i, Hin.out, (by first | rfl | go_num), rfl, HB2.out, HM.out.step (by repeat (first | exact Ext.refl _ | assumption | refine Ext.setCell ?_ (by first | (simp; done) | (simp; omega)) _ | refine Ext.drewN ?_ _ | refine Ext.alloc ?_ _ | refine Ext.drew ?_ | refine Ext.trans ?_ (by assumption)))⟩
                  case measure => exact nxt_c Hin.out
            · rw [hdi] at c3
              have HB2 := hidA (HB.out.no (fun _ => hdi))
              clear hsi hdi hM hi hin
              go_upto_region 7 with fail
              go_quiet (fail)
              clear c1 c2 c3
              go_wp2
              go_roundw
              case rel => exact ⟨i + 1, best, Hin.out, (by first | rfl | go_num), rfl, HB2.out, HM.out.step (by repeat (first | exact Ext.refl _ | assumption | refine Ext.setCell ?_ (by first | (simp; done) | (simp; omega)) _ | refine Ext.drewN ?_ _ | refine Ext.alloc ?_ _ | refine Ext.drew ?_ | refine Ext.trans ?_ (by assumption)))⟩
              case measure => exact nxt_c Hin.out
        · obtain rfl : N = i := by omega
          clear hin hi
          rcases hB with ⟨hb, hall⟩ | ⟨k, hb, hk, hsk, hdk, hmin⟩
          · subst hb
            have HF := hidA (HD.out.fin Hl.out.tr hall)
            have HM := hidA hM
            clear hM hall
            go_wp2
            go_ret2
            exact ⟨go, gs, is, v, rfl, HM.out.b1, HM.out.b2, HM.out.og, HM.out.eg, HF.out, HM.out.x⟩
          · subst hb
            have HR := hidA (HD.out.take hk hsk hdk hmin)
            have Hlu := hidA (left_upd hk hdk)
            have dk : decide ((k : Int) < 0) = false := decide_eq_false (by omega)
            have k0 : (0 : Int) ≤ k := by omega
            have k1 : (k : Int) < N := by omega
            have c3 := hM.c3 hk
            have f3 := hM.dg.frozen k
            have hM1 := hM.mark k
            have HM1 := hidA hM1
            have Hk := hidA hk
            clear hM hM1 hsk hdk hmin hk HD
            go_upto_region 14 with fail
            clear c3 f3
            generalize wr.setCell ⟨gd, k, none⟩ (.bool true) = w2 at *
            go_loopw [67] (fun s67 wx => ∃ (j : Nat) (is : Nat → Bool) (v : Nat → Nat), j ≤ n ∧ s67 = .int .i64 j ∧ TM w wx go gs gd N (updF done k true) is v ∧ TR N (plR l) src (plR (l.take j)) k (updF done k true) is v) (fun s67 _ => n - (intOf s67).toNat)
            case atStart => exact ⟨0, is, v, Nat.zero_le _, rfl, HM1.out, HR.out⟩
            case round =>
              clear HM1 HR
              obtain ⟨j, is, v, hj, rfl, hM, hR⟩ := hrel
              by_cases hjn : j < n
              · have Hjn := hidA hjn
                have hjl : j < l.length := by have := Hn.out; omega
                obtain ⟨ad, rfl, hbk, d0, d1, d2, d3⟩ := ((HV _ hM.x).out).road hjl
                have hTk := plR_take hjl
                have hMem := plR_mem hjl
                have hNN := Hl.out.nn j hjl
                obtain ⟨r, hr⟩ : ∃ r, r = l[j] := ⟨_, rfl⟩
                rw [← hr] at d0 d1 d2 d3 hTk hMem hNN
                obtain ⟨ra, rb, wA, wn, wc, p⟩ := r
                dsimp only at d0 d1 d2 d3 hTk hMem hNN
                obtain ⟨a, rfl⟩ : ∃ a : Nat, ra = a := ⟨ra.toNat, by omega⟩
                obtain ⟨b, rfl⟩ : ∃ b : Nat, rb = b := ⟨rb.toNat, by omega⟩
                rw [Int.toNat_natCast, Int.toNat_natCast] at hTk hMem
                have HTk := hidA hTk
                have hp := (Hl.out.tr _ _ _ hMem).2.2.2
                have hj0 : (0 : Int) ≤ j := by omega
                have hj1 : (j : Int) < n := by omega
                have hj2 : (j : Int) ≤ 1000 := by omega
                have HR := hidA hR
                have HMem := hidA hMem
                have HNN := hidA hNN
                clear hTk hMem hNN hR hr hbk hj hjn
                go_upto_region 16 with fail
                have kR : Bk (wr.alloc (.cells #[.int .i64 (a : Int), .int .i64 (b : Int), .slice wA wn wc, .float .f32 p] 87)) wr.heap.size 87 #[.int .i64 (a : Int), .int .i64 (b : Int), .slice wA wn wc, .float .f32 p] := Bk.new' rfl
                have hM4 := hM.step ((Ext.refl wr).alloc (.cells #[.int .i64 (a : Int), .int .i64 (b : Int), .slice wA wn wc, .float .f32 p] 87))
                clear d0 d1 d2 d3 hM
                generalize wr.alloc (.cells #[.int .i64 (a : Int), .int .i64 (b : Int), .slice wA wn wc, .float .f32 p] 87) = w4 at *
                generalize wr.heap.size = ha at *
                have r0 := kR.cell 0
                have r1 := kR.cell 1
                have r3 := kR.cell 3
                have HM4 := hidA hM4
                clear hM4
                by_cases hbk : b = k
                · subst hbk
                  have HE : Hid (TrE (plR l) b a p) := Or.inr HMem.out
                  have ht : a < N := by have := HNN.out; omega
                  clear HMem
                  obtain ⟨hadd, hsx, _⟩ := sumT (HR.out.s.ob b HR.out.kN) hp
                  have hltv := sum_lt hsx (HR.out.s.ob a ht)
                  have hrun := fun (w : World) => run_float_arith (P := Try.prog) w .add 27 .f32 _ _ _ hadd
                  have c1 := HM4.out.c1 HR.out.kN
                  have t0 : (0 : Int) ≤ a := by omega
                  have t1 : (a : Int) < N := by omega
                  have Ht := hidA ht
                  cases hst : is a
                  · have Hst := hidA hst
                    have hg : goesT is v a (fadd (v b) p) = true := by simp [goesT, hst]
                    have HR2 := hidA (HR.out.put Hl.out.tr (.inr ⟨rfl, rfl⟩) HE.out hg)
                    rw [← HTk.out] at HR2
                    clear hg hadd hltv hsx ht hst
                    generalize fadd (v b) p = x at *
                    go_upto_region 20 with fail
                    go_quiet (fail)
                    have HM5 := hidA (HM4.out.step (show Ext w4 (w4.drewN nq) from (by repeat (first | exact Ext.refl _ | assumption | refine Ext.setCell ?_ (by first | (simp; done) | (simp; omega)) _ | refine Ext.drewN ?_ _ | refine Ext.alloc ?_ _ | refine Ext.drew ?_ | refine Ext.trans ?_ (by assumption)))))
                    clear c1 r0 r1 r3 HM4 kR hrun
                    generalize w4.drewN nq = w5 at *
                    have ct1 := HM5.out.c1 Ht.out
                    have ct2 := HM5.out.c2 Ht.out
                    rw [Hst.out] at ct2
                    have z1 := HM5.out.og.frozen a
                    have z2 := (HM5.out.put1 a x).eg.frozen a
                    have q2 := (HM5.out.put1 a x).c2 Ht.out
                    have q3 := HM5.out.eg.frozen a
                    have HM6 := hidA (HM5.out.put a x)
                    go_wp2
                    clear ct1 ct2 z1 z2 q2 q3 HM5
                    go_roundw
                    case rel => exact ⟨j + 1, _, _, Hjn.out, (by first | rfl | go_num), HM6.out, HR2.out⟩
                    case measure => exact nxt_c Hjn.out
                  · have Hst := hidA hst
                    cases hq : lt (fadd (v b) p) (v a)
                    · have hg : goesT is v a (fadd (v b) p) = false := by simp [goesT, hst, hq]
                      have HR2 := hidA (HR.out.stay Hl.out.tr (.inr ⟨rfl, rfl⟩) HE.out hg)
                      rw [← HTk.out] at HR2
                      have hq' : (FloatKind.f32.format.order (fadd (v b) p) (v a) == some .lt) = false := hq
                      clear hg hadd hltv hsx ht hst hq
                      generalize fadd (v b) p = x at *
                      go_upto_region 20 with fail
                      go_quiet (fail)
                      have HM5 := hidA (HM4.out.step (show Ext w4 (w4.drewN nq) from (by repeat (first | exact Ext.refl _ | assumption | refine Ext.setCell ?_ (by first | (simp; done) | (simp; omega)) _ | refine Ext.drewN ?_ _ | refine Ext.alloc ?_ _ | refine Ext.drew ?_ | refine Ext.trans ?_ (by assumption)))))
                      clear c1 r0 r1 r3 HM4 kR hrun
                      generalize w4.drewN nq = w5 at *
                      have ct1 := HM5.out.c1 Ht.out
                      have ct2 := HM5.out.c2 Ht.out
                      rw [Hst.out] at ct2
                      go_wp2
                      clear ct1 ct2
                      go_roundw
                      case rel => exact ⟨j + 1, _, _, Hjn.out, (by first | rfl | go_num), HM5.out, HR2.out⟩
                      case measure => exact nxt_c Hjn.out
                    · have hg : goesT is v a (fadd (v b) p) = true := by simp [goesT, hst, hq]
                      have HR2 := hidA (HR.out.put Hl.out.tr (.inr ⟨rfl, rfl⟩) HE.out hg)
                      rw [← HTk.out] at HR2
                      have hq' : (FloatKind.f32.format.order (fadd (v b) p) (v a) == some .lt) = true := hq
                      clear hg hadd hltv hsx ht hst hq
                      generalize fadd (v b) p = x at *
                      go_upto_region 20 with fail
                      go_quiet (fail)
                      have HM5 := hidA (HM4.out.step (show Ext w4 (w4.drewN nq) from (by repeat (first | exact Ext.refl _ | assumption | refine Ext.setCell ?_ (by first | (simp; done) | (simp; omega)) _ | refine Ext.drewN ?_ _ | refine Ext.alloc ?_ _ | refine Ext.drew ?_ | refine Ext.trans ?_ (by assumption)))))
                      clear c1 r0 r1 r3 HM4 kR hrun
                      generalize w4.drewN nq = w5 at *
                      have ct1 := HM5.out.c1 Ht.out
                      have ct2 := HM5.out.c2 Ht.out
                      rw [Hst.out] at ct2
                      have z1 := HM5.out.og.frozen a
                      have z2 := (HM5.out.put1 a x).eg.frozen a
                      have q2 := (HM5.out.put1 a x).c2 Ht.out
                      have q3 := HM5.out.eg.frozen a
                      have HM6 := hidA (HM5.out.put a x)
                      go_wp2
                      clear ct1 ct2 z1 z2 q2 q3 HM5
                      go_roundw
                      case rel => exact ⟨j + 1, _, _, Hjn.out, (by first | rfl | go_num), HM6.out, HR2.out⟩
                      case measure => exact nxt_c Hjn.out
                · by_cases hak : a = k
                  · subst hak
                    have HE : Hid (TrE (plR l) a b p) := Or.inl HMem.out
                    have ht : b < N := by have := HNN.out; omega
                    have hba : ((b : Int) == (a : Int)) = false := by simpa using fun e : (b : Int) = a => hbk (by omega)
                    clear HMem hbk
                    obtain ⟨hadd, hsx, _⟩ := sumT (HR.out.s.ob a HR.out.kN) hp
                    have hltv := sum_lt hsx (HR.out.s.ob b ht)
                    have hrun := fun (w : World) => run_float_arith (P := Try.prog) w .add 27 .f32 _ _ _ hadd
                    have c1 := HM4.out.c1 HR.out.kN
                    have t0 : (0 : Int) ≤ b := by omega
                    have t1 : (b : Int) < N := by omega
                    have Ht := hidA ht
                    cases hst : is b
                    · have Hst := hidA hst
                      have hg : goesT is v b (fadd (v a) p) = true := by simp [goesT, hst]
                      have HR2 := hidA (HR.out.put Hl.out.tr (.inl ⟨rfl, rfl⟩) HE.out hg)
                      rw [← HTk.out] at HR2
                      clear hg hadd hltv hsx ht hst
                      generalize fadd (v a) p = x at *
                      go_upto_region 20 with fail
                      go_quiet (fail)
                      have HM5 := hidA (HM4.out.step (show Ext w4 (w4.drewN nq) from (by repeat (first | exact Ext.refl _ | assumption | refine Ext.setCell ?_ (by first | (simp; done) | (simp; omega)) _ | refine Ext.drewN ?_ _ | refine Ext.alloc ?_ _ | refine Ext.drew ?_ | refine Ext.trans ?_ (by assumption)))))
                      clear c1 r0 r1 r3 HM4 kR hrun
                      generalize w4.drewN nq = w5 at *
                      have ct1 := HM5.out.c1 Ht.out
                      have ct2 := HM5.out.c2 Ht.out
                      rw [Hst.out] at ct2
                      have z1 := HM5.out.og.frozen b
                      have z2 := (HM5.out.put1 b x).eg.frozen b
                      have q2 := (HM5.out.put1 b x).c2 Ht.out
                      have q3 := HM5.out.eg.frozen b
                      have HM6 := hidA (HM5.out.put b x)
                      go_wp2
                      clear ct1 ct2 z1 z2 q2 q3 HM5
                      go_roundw
                      case rel => exact ⟨j + 1, _, _, Hjn.out, (by first | rfl | go_num), HM6.out, HR2.out⟩
                      case measure => exact nxt_c Hjn.out
                    · have Hst := hidA hst
                      cases hq : lt (fadd (v a) p) (v b)
                      · have hg : goesT is v b (fadd (v a) p) = false := by simp [goesT, hst, hq]
                        have HR2 := hidA (HR.out.stay Hl.out.tr (.inl ⟨rfl, rfl⟩) HE.out hg)
                        rw [← HTk.out] at HR2
                        have hq' : (FloatKind.f32.format.order (fadd (v a) p) (v b) == some .lt) = false := hq
                        clear hg hadd hltv hsx ht hst hq
                        generalize fadd (v a) p = x at *
                        go_upto_region 20 with fail
                        go_quiet (fail)
                        have HM5 := hidA (HM4.out.step (show Ext w4 (w4.drewN nq) from (by repeat (first | exact Ext.refl _ | assumption | refine Ext.setCell ?_ (by first | (simp; done) | (simp; omega)) _ | refine Ext.drewN ?_ _ | refine Ext.alloc ?_ _ | refine Ext.drew ?_ | refine Ext.trans ?_ (by assumption)))))
                        clear c1 r0 r1 r3 HM4 kR hrun
                        generalize w4.drewN nq = w5 at *
                        have ct1 := HM5.out.c1 Ht.out
                        have ct2 := HM5.out.c2 Ht.out
                        rw [Hst.out] at ct2
                        go_wp2
                        clear ct1 ct2
                        go_roundw
                        case rel => exact ⟨j + 1, _, _, Hjn.out, (by first | rfl | go_num), HM5.out, HR2.out⟩
                        case measure => exact nxt_c Hjn.out
                      · have hg : goesT is v b (fadd (v a) p) = true := by simp [goesT, hst, hq]
                        have HR2 := hidA (HR.out.put Hl.out.tr (.inl ⟨rfl, rfl⟩) HE.out hg)
                        rw [← HTk.out] at HR2
                        have hq' : (FloatKind.f32.format.order (fadd (v a) p) (v b) == some .lt) = true := hq
                        clear hg hadd hltv hsx ht hst hq
                        generalize fadd (v a) p = x at *
                        go_upto_region 20 with fail
                        go_quiet (fail)
                        have HM5 := hidA (HM4.out.step (show Ext w4 (w4.drewN nq) from (by repeat (first | exact Ext.refl _ | assumption | refine Ext.setCell ?_ (by first | (simp; done) | (simp; omega)) _ | refine Ext.drewN ?_ _ | refine Ext.alloc ?_ _ | refine Ext.drew ?_ | refine Ext.trans ?_ (by assumption)))))
                        clear c1 r0 r1 r3 HM4 kR hrun
                        generalize w4.drewN nq = w5 at *
                        have ct1 := HM5.out.c1 Ht.out
                        have ct2 := HM5.out.c2 Ht.out
                        rw [Hst.out] at ct2
                        have z1 := HM5.out.og.frozen b
                        have z2 := (HM5.out.put1 b x).eg.frozen b
                        have q2 := (HM5.out.put1 b x).c2 Ht.out
                        have q3 := HM5.out.eg.frozen b
                        have HM6 := hidA (HM5.out.put b x)
                        go_wp2
                        clear ct1 ct2 z1 z2 q2 q3 HM5
                        go_roundw
                        case rel => exact ⟨j + 1, _, _, Hjn.out, (by first | rfl | go_num), HM6.out, HR2.out⟩
                        case measure => exact nxt_c Hjn.out
                  · have HR2 := hidA (HR.out.skip (p := p) hak hbk)
                    rw [← HTk.out] at HR2
                    have e1 : ((b : Int) == (k : Int)) = false := by simpa using fun e : (b : Int) = k => hbk (by omega)
                    have e2 : ((a : Int) == (k : Int)) = false := by simpa using fun e : (a : Int) = k => hak (by omega)
                    have e3 : ((a : Int) != (k : Int)) = true := by simpa using fun e : (a : Int) = k => hak (by omega)
                    clear hak hbk HMem
                    go_wp2
                    go_roundw
                    case rel => exact ⟨j + 1, _, _, Hjn.out, (by first | rfl | go_num), HM4.out, HR2.out⟩
                    case measure => exact nxt_c Hjn.out
              · obtain rfl : j = n := by omega
                have hR2 := hR
                rw [List.take_of_length_le (by have := Hn.out; omega)] at hR2
                have HR2 := hidA hR2.close
                have HM := hidA hM
                clear hR hR2 hM hj hjn
                go_wp2_with fail
                go_roundg (left N (updF done k true) + 1)
                case measure => have := Hlu.out; have := Hgk.out; omega
                case rel => exact ⟨_, _, _, HM.out, HR2.out, Nat.le_refl _, trivial⟩
end Go.Proofs.Ytpgdinpckolfpaa
