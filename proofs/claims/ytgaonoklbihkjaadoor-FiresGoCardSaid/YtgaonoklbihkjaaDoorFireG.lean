/- Contract: tarnref2.BurntOf. -/
import Derived.Test.YtgaonoklbihkjaaDoorFireF
import Derived.Deep.LoopGhost
import Derived.Deep.DeepCutAuto
namespace Go.Proofs.YtgaonoklbihkjaaDoor
open Go.RowKit
attribute [local go_sem ↓] Go.wp_at_zero Go.wp_at_succ
attribute [local go_sem] run_store_float

structure BS (W0 w : World) (hl hp ht ga : Nat) (A : Option Addr) (n c : Nat) (B : Option Addr) (m d : Nat) (ax ay : Int) (b : Nat → Bool) : Prop where
  fb : FB W0 w hl hp ht A n c B m d ax ay
  ab : Bk w ga 4 (bools m b)
  g1 : W0.heap.size ≤ ga
theorem BS.step {W0 w w' : World} {hl hp ht ga : Nat} {A : Option Addr} {n c : Nat} {B : Option Addr} {m d : Nat} {ax ay : Int} {b : Nat → Bool} (h : BS W0 w hl hp ht ga A n c B m d ax ay b) (hx : Ext w w') : BS W0 w' hl hp ht ga A n c B m d ax ay b := ⟨h.fb.step hx, h.ab.ext hx, h.g1⟩
theorem BS.burn {W0 w : World} {hl hp ht ga : Nat} {A : Option Addr} {n c : Nat} {B : Option Addr} {m d : Nat} {ax ay : Int} {b : Nat → Bool} (h : BS W0 w hl hp ht ga A n c B m d ax ay b) (i : Nat) (x : Bool) : BS W0 (w.setCell ⟨ga, i, none⟩ (.bool x)) hl hp ht ga A n c B m d ax ay (upB b i x) := by
  refine ⟨⟨h.fb.kb.far ?_ _, h.fb.pb.far ?_ _, h.fb.tb.far ?_ _, h.fb.ext.setCell h.g1 _⟩, ?_, h.g1⟩
  · exact h.fb.kb.ne h.ab (by decide)
  · exact h.fb.pb.ne h.ab (by decide)
  · exact h.fb.tb.ne h.ab (by decide)
  · rw [← bools_set]
    exact h.ab.set _ _
/-- what burns is reached, and all that is near burns -/
structure Sub (l : List KindR) (p : List PlantR) (z : PlantR) (wind : Int) (b : Nat → Bool) : Prop where
  reach : ∀ i, i < p.length → b i = true → ReachF l p z wind i
  begun : BegunF l p z p.length b
theorem Sub.up {l : List KindR} {p : List PlantR} {z : PlantR} {wind : Int} {b : Nat → Bool} (h : Sub l p z wind b) {i j : Nat} (hi : i < p.length) (hj : j < p.length) (hb : b i = true) (he : edgeF l p wind i j = true) (hc : canF l p j = true) : Sub l p z wind (upB b j true) := by
  refine ⟨fun k hk hb2 => ?_, fun k hk h1 h2 => ?_⟩
  · unfold upB at hb2
    by_cases e : k = j
    · subst e; exact Reach.step (h.reach i hi hb) hj he hc
    · rw [if_neg e] at hb2; exact h.reach k hk hb2
  · unfold upB
    split
    · rfl
    · exact h.begun k hk h1 h2
/-- how a pass stands: nothing has turned, and what came by is closed; or more burn -/
def Pass (l : List KindR) (p : List PlantR) (wind : Int) (m c0 : Nat) (b : Nat → Bool) (ag : Bool) (i : Nat) : Prop :=
  ag = false ∧ cnt b m = c0 ∧ (∀ i', i' < i → b i' = true → ∀ j, j < m → edgeF l p wind i' j = true → canF l p j = true → b j = true) ∨ ag = true ∧ c0 < cnt b m
def PassJ (l : List KindR) (p : List PlantR) (wind : Int) (m c0 : Nat) (b : Nat → Bool) (ag : Bool) (i j : Nat) : Prop :=
  ag = false ∧ cnt b m = c0 ∧ (∀ i', i' < i → b i' = true → ∀ j, j < m → edgeF l p wind i' j = true → canF l p j = true → b j = true) ∧ (b i = true → ∀ j', j' < j → edgeF l p wind i j' = true → canF l p j' = true → b j' = true) ∨ ag = true ∧ c0 < cnt b m
theorem Pass.toJ {l : List KindR} {p : List PlantR} {wind : Int} {m c0 : Nat} {b : Nat → Bool} {ag : Bool} {i : Nat} (h : Pass l p wind m c0 b ag i) : PassJ l p wind m c0 b ag i 0 := by
  rcases h with ⟨h1, h2, h3⟩ | h
  · exact .inl ⟨h1, h2, h3, fun _ j' hj => absurd hj (by omega)⟩
  · exact .inr h
theorem PassJ.done {l : List KindR} {p : List PlantR} {wind : Int} {m c0 : Nat} {b : Nat → Bool} {ag : Bool} {i : Nat} (h : PassJ l p wind m c0 b ag i m) : Pass l p wind m c0 b ag (i + 1) := by
  rcases h with ⟨h1, h2, h3, h4⟩ | h
  · refine .inl ⟨h1, h2, fun i' hi hb j hj he hc => ?_⟩
    by_cases e : i' = i
    · subst e; exact h4 hb j hj he hc
    · exact h3 i' (by omega) hb j hj he hc
  · exact .inr h
theorem PassJ.skip {l : List KindR} {p : List PlantR} {wind : Int} {m c0 : Nat} {b : Nat → Bool} {ag : Bool} {i j : Nat} (h : PassJ l p wind m c0 b ag i j) (hs : b i = true → edgeF l p wind i j = true → canF l p j = true → b j = true) : PassJ l p wind m c0 b ag i (j + 1) := by
  rcases h with ⟨h1, h2, h3, h4⟩ | h
  · refine .inl ⟨h1, h2, h3, fun hb j' hj he hc => ?_⟩
    by_cases e : j' = j
    · subst e; exact hs hb he hc
    · exact h4 hb j' (by omega) he hc
  · exact .inr h
theorem PassJ.burn {l : List KindR} {p : List PlantR} {wind : Int} {m c0 : Nat} {b : Nat → Bool} {ag : Bool} {i j : Nat} (h : PassJ l p wind m c0 b ag i j) (hj : j < m) (hb : b j = false) : PassJ l p wind m c0 (upB b j true) true i (j + 1) := by
  refine .inr ⟨rfl, ?_⟩
  rw [cnt_up b hb, if_pos hj]
  rcases h with ⟨_, h2, _⟩ | ⟨_, h2⟩ <;> omega

set_option maxRecDepth 100000 in
set_option maxHeartbeats 12800000 in
theorem BurntOf_ok (A : Option Addr) (n c : Nat) (l : List KindR) (B : Option Addr) (m d : Nat) (p : List PlantR) (ax ay wind : Int) (w : World) (hn : l.length = n) (hd : Rd w A (kcells l)) (hm : p.length = m) (hp : Rd w B (pcells p)) (h0 : plantsE l p = 0) (hat : (spot ax ay).farB = false) (hw : -1 ≤ wind ∧ wind < 8) :
    Calls Tryd.prog 28 #[.slice A n c, .slice B m d, .agg #[.int .i64 ax, .int .i64 ay], .int .i64 wind] w fun e w' => ∃ (v : Value) (b : Nat → Bool), e = .returned v ∧ OwnI w' w.heap.size v ((List.range m).filter b) ∧ (∀ i, i < m → (b i = true ↔ ReachF l p (spot ax ay) wind i)) ∧ Ext w w' := by
  have ok := plantsOk h0
  have hm4 : m ≤ 4000 := by have := ok.small; omega
  have hmk := mk_bool m (by omega)
  have Hat := hidA hat
  have Hm := hidA hm
  have Hn := hidA hn
  clear h0 hn hm hat
  go_enter Tryd.func28, Tryd.ntmps28
  go_wp2_with fail
  obtain ⟨w3, hw3⟩ : ∃ w3, w3 = (((w.alloc (.cells #[.slice A n c] 22)).alloc (.cells #[.slice B m d] 23)).alloc (.cells #[.int .i64 ax, .int .i64 ay] 36)).alloc (.cells (bools m fun _ => false) 4) := ⟨_, rfl⟩
  rw [← hw3]
  have hF : BS w w3 w.heap.size (w.heap.size + 1) (w.heap.size + 1 + 1) (w.heap.size + 1 + 1 + 1) A n c B m d ax ay (fun _ => false) := by
    rw [hw3]
    exact ⟨⟨(((Bk.new' rfl).alloc _).alloc _).alloc _, ((Bk.new' (by simp)).alloc _).alloc _, (Bk.new' (by simp)).alloc _, ((((Ext.refl w).alloc _).alloc _).alloc _).alloc _⟩, Bk.new' (by simp), by omega⟩
  clear hw3 hmk
  generalize w.heap.size + 1 + 1 + 1 = ga at *
  go_loopw [29] (fun s wr => ∃ (k : Nat) (b : Nat → Bool), k ≤ m ∧ s = .int .i64 k ∧ BS w wr w.heap.size (w.heap.size + 1) (w.heap.size + 1 + 1) ga A n c B m d ax ay b ∧ (∀ i, i < k → b i = (canF l p i && nearF p (spot ax ay) i)) ∧ ∀ i, k ≤ i → b i = false) (fun s _ => m - (intOf s).toNat)
  case atStart => exact ⟨0, _, Nat.zero_le _, rfl, hF, fun i hi => absurd hi (by omega), fun _ _ => rfl⟩
  case round =>
    clear hF
    obtain ⟨k, b, hk, rfl, hF, hb1, hb2⟩ := hrel
    by_cases hlt : k < m
    · have hkl : k < p.length := by have := Hm.out; omega
      have HC := fun (w' : World) (F : FB w w' w.heap.size (w.heap.size + 1) (w.heap.size + 1 + 1) A n c B m d ax ay) => hidA (can_any w w' _ _ _ A n c l B m d ax ay p Hn.out Hm.out hd hp ok F k hkl)
      have HSQ := fun (w : World) => hidA (refSquare_any p[k] (spot ax ay) w (ok.near k hkl) Hat.out)
      have HNr : Hid (nearF p (spot ax ay) k = decide (((sqD p[k] (spot ax ay) : Nat) : Int) ≤ 9)) := by show _ = _; unfold nearF; rw [getD_at hkl]
      have hpw := hp.ext hF.fb.ext
      obtain ⟨ad, rfl, hbk, _⟩ := hp.at (k := k) (by rw [pcells_length]; omega)
      obtain ⟨d0, d1, d2, d3, d4⟩ := hpw.plant hkl
      have Hb := hidA (show ∀ x : Bool, x = (canF l p k && nearF p (spot ax ay) k) → (∀ i, i < k + 1 → upB b k x i = (canF l p i && nearF p (spot ax ay) i)) ∧ ∀ i, k + 1 ≤ i → upB b k x i = false from fun x hx => ⟨fun i hi => by
        unfold upB
        by_cases e : i = k
        · subst e; rw [if_pos rfl, hx]
        · rw [if_neg e]; exact hb1 i (by omega), fun i hi => by
        unfold upB
        rw [if_neg (by omega)]; exact hb2 i (by omega)⟩)
      generalize sqD p[k] (spot ax ay) = sq at *
      generalize p[k] = x at *
      obtain ⟨kd, px, py, sz, ag⟩ := x
      dsimp only at d0 d1 d2 d3 d4
      dsimp only [spot] at HSQ
      have i0 : (0 : Int) ≤ k := by omega
      have i1 : (k : Int) < m := by omega
      obtain ⟨w5, hw5⟩ : ∃ w5, w5 = wr.alloc (.cells #[.int .i64 kd, .int .i64 px, .int .i64 py, .float .f32 sz, .int .i64 ag] 46) := ⟨_, rfl⟩
      go_wp2_with fail
      rw [← hw5]
      have hX5 : Bk w5 wr.heap.size 46 #[.int .i64 kd, .int .i64 px, .int .i64 py, .float .f32 sz, .int .i64 ag] := by rw [hw5]; exact Bk.new' rfl
      have hF5 := hF.step ((Ext.refl wr).alloc (.cells #[.int .i64 kd, .int .i64 px, .int .i64 py, .float .f32 sz, .int .i64 ag] 46))
      rw [← hw5] at hF5
      clear hw5 d0 d1 d2 d3 d4 hpw hb1 hb2 hF
      refine ((HC _ hF5.fb).out).mono ?_
      rintro e w6 ⟨rfl, hb6⟩
      have hX6 := hX5.ext hb6
      have hF6 := hF5.step hb6
      clear hX5 hF5 hb6 HC
      generalize wr.heap.size = gx at *
      have p1 := hX6.cell 1
      have p2 := hX6.cell 2
      have c0 := hF6.fb.tb.cell 0
      have c1 := hF6.fb.tb.cell 1
      have hgf := hF6.ab.frozen k
      have hgc : w6.cell? ⟨ga, k, none⟩ = some (.bool (b k)) := by rw [hF6.ab.cell]; exact bools_get b hlt
      cases hcan : canF l p k
      · rw [hcan] at Hb
        obtain ⟨hn1, hn2⟩ := Hb.out false rfl
        have hF7 := hF6.burn k false
        clear Hb HSQ HNr
        go_wp2_with fail
        go_roundw
        case rel => exact ⟨k + 1, _, by omega, congrArg (Value.int .i64) (by omega), hF7, hn1, hn2⟩
        case measure => simp [intOf]; omega
      · rw [hcan] at Hb
        obtain ⟨hn1, hn2⟩ := Hb.out (decide ((sq : Int) ≤ 9)) (by rw [HNr.out]; rfl)
        have hF7 := hF6.burn k (decide ((sq : Int) ≤ 9))
        clear Hb HNr
        go_wp2_with fail
        refine ((HSQ _).out).mono ?_
        rintro e w7 ⟨rfl, hw7⟩
        subst hw7
        go_wp2_with fail
        go_roundw
        case rel => exact ⟨k + 1, _, by omega, congrArg (Value.int .i64) (by omega), hF7, hn1, hn2⟩
        case measure => simp [intOf]; omega
    · obtain rfl : m = k := by omega
      have hS : Sub l p (spot ax ay) wind b := by
        refine ⟨fun i hi h => ?_, fun i hi h1 h2 => ?_⟩
        · rw [hb1 i (by rw [← Hm.out]; exact hi)] at h
          simp at h
          exact Reach.base hi h.2 h.1
        · rw [hb1 i (by rw [← Hm.out]; exact hi), h1, h2]; rfl
      have HS0 := hidA hS
      clear hS hb1 hb2 hlt hk
      go_wp2_with fail
      go_loopg [13] (2 * m + 1) (fun g s13 wr => ∃ (b : Nat → Bool) (ag : Bool), s13 = .bool ag ∧ BS w wr w.heap.size (w.heap.size + 1) (w.heap.size + 1 + 1) ga A n c B m d ax ay b ∧ Sub l p (spot ax ay) wind b ∧ (ag = false → ∀ i', i' < m → b i' = true → ∀ j, j < m → edgeF l p wind i' j = true → canF l p j = true → b j = true) ∧ 2 * (m - cnt b m) + (if ag = true then 1 else 0) ≤ g)
      case atStart => exact ⟨b, true, rfl, hF, HS0.out, (fun h => by cases h), (by simp; omega)⟩
      case round =>
        clear hF HS0
        obtain ⟨b, ag, rfl, hF, hS, hcl, hg⟩ := hrel
        cases ag
        · have hend := closed_end hS.reach hS.begun (by rw [Hm.out]; exact hcl rfl)
          have Hend := hidA (show ∀ i, i < m → (b i = true ↔ ReachF l p (spot ax ay) wind i) from fun i hi => hend i (by rw [Hm.out]; exact hi))
          obtain ⟨i0, hi0, hz0, hz1, hz2⟩ := info_parts infoInt
          have hga := hF.ab
          have hxw := hF.fb.ext
          have kp := hF.fb.pb.cell 0
          clear hend hcl hg hS
          go_wp2_with fail
          clear hF kp
          go_loopw [21, 144] (fun v s wr3 => ∃ k : Nat, k ≤ m ∧ s = .int .i64 k ∧ OwnI wr3 w.heap.size v ((List.range k).filter b) ∧ Bk wr3 ga 4 (bools m b) ∧ Ext w wr3) (fun _ s _ => m - (intOf s).toNat)
          case atStart => exact ⟨0, Nat.zero_le _, rfl, OwnI.nil _ _, hga, hxw⟩
          case round =>
            clear hga hxw
            obtain ⟨k, hk, rfl, hO, hga, hxw⟩ := hrel
            by_cases hlt : k < m
            · have hfl : ((List.range k).filter b).length ≤ 4000 := by have := List.length_filter_le b (List.range k); simp at this; omega
              have cg : wr.cell? ⟨ga, k, none⟩ = some (.bool (b k)) := by rw [hga.cell]; exact bools_get b hlt
              have k0 : (0 : Int) ≤ k := by omega
              have k1 : (k : Int) < m := by omega
              have Hf := hidA (filter_succ b k)
              cases hbk : b k
              · rw [hbk] at cg Hf
                have hO2 : OwnI wr w.heap.size u21 ((List.range (k + 1)).filter b) := by rw [Hf.out]; simpa using hO
                go_wp2_with fail
                go_roundw
                case rel => exact ⟨k + 1, by omega, congrArg (Value.int .i64) (by omega), hO2, hga, hxw⟩
                case measure => simp [intOf]; omega
              · rw [hbk] at cg Hf
                have hA3 := hidA (show (wr.alloc (.cells #[.int .i64 (k : Int)] 3)).ownsRow w.heap.size 3 1 u21 ((List.range k).filter b).length (ints ((List.range k).filter b)) from hO.ext ((Ext.refl _).alloc _))
                have hN3 := hidA (show ∀ j u, [Value.int .i64 (k : Int)][j]? = some u → (wr.alloc (.cells #[.int .i64 (k : Int)] 3)).cell? ((⟨wr.heap.size, 0, none⟩ : Addr).add j) = some u from World.news_of_block (cs := #[.int .i64 (k : Int)]) (t := 3) (fr := (0, 0)) (Bk.new' rfl))
                have hone := hidA (show ∀ u ∈ [Value.int .i64 (k : Int)], u.oneCell' = true from by intro u hu; simp at hu; subst hu; rfl)
                have hs3 := hidA (show w.heap.size ≤ (wr.alloc (.cells #[.int .i64 (k : Int)] 3)).heap.size from by have := hxw.size; simp; omega)
                have Hga := hidA (hga.alloc (.cells #[.int .i64 (k : Int)] 3))
                have Hxa := hidA (hxw.alloc (.cells #[.int .i64 (k : Int)] 3))
                go_wp2_with (at_builtin; (refine wpList_append_own _ (by rfl) _ _ 67 (by rfl) w.heap.size 3 i0 (.int .i64 0) 1 8 Tryd.underlying67 hi0 hz0 hz1 hz2 rfl (by decide) u21 ((List.range k).filter b).length (ints ((List.range k).filter b)) (by rfl) hA3.out ⟨wr.heap.size, 0, none⟩ 1 1 [.int .i64 (k : Int)] (by rfl) (by rfl) hN3.out hone.out (by unfold maxLen; omega) (by omega) hs3.out ?_; intro v4 w4 hown4 hgrow4 _))
                have hga4 := Hga.out.grown hgrow4 (own_ne hA3.out Hga.out (by decide))
                have hx4 : Ext w w4 := Hxa.out.grown hgrow4 (fun q he => (hA3.out.lt q he).1)
                have hO2 : OwnI w4 w.heap.size v4 ((List.range (k + 1)).filter b) := by
                  rw [Hf.out, if_pos rfl]
                  unfold OwnI
                  rw [ints_snoc, List.length_append]
                  exact hown4
                clear hA3 hN3 hone hs3 Hga Hxa hgrow4 hown4 cg hga hxw hO
                go_wp2_with fail
                go_roundw
                case rel => exact ⟨k + 1, by omega, congrArg (Value.int .i64) (by omega), hO2, hga4, hx4⟩
                case measure => simp [intOf]; omega
            · obtain rfl : m = k := by omega
              go_wp2_with fail
              go_ret
              exact ⟨u21, b, rfl, hO, Hend.out, hxw⟩
        · have Hg := hidA (show 2 * (m - cnt b m) + 1 ≤ gk from hg)
          clear hg hcl
          generalize hc0 : cnt b m = c0 at *
          have hPa : Pass l p wind m c0 b false 0 := .inl ⟨rfl, hc0, fun i' h => absurd h (by omega)⟩
          clear hc0
          have kp := hF.fb.pb.cell 0
          go_wp2_with fail
          clear kp
          go_loopw [13, 56] (fun s13 s wr => ∃ (i : Nat) (b : Nat → Bool) (ag : Bool), i ≤ m ∧ s = .int .i64 i ∧ s13 = .bool ag ∧ BS w wr w.heap.size (w.heap.size + 1) (w.heap.size + 1 + 1) ga A n c B m d ax ay b ∧ Sub l p (spot ax ay) wind b ∧ Pass l p wind m c0 b ag i) (fun _ s _ => m - (intOf s).toNat)
          case atStart => exact ⟨0, b, false, Nat.zero_le _, rfl, rfl, hF, hS, hPa⟩
          case round =>
            clear hF hS hPa
            obtain ⟨i, b, ag, hi, rfl, rfl, hF, hS, hP⟩ := hrel
            by_cases him : i < m
            · have hil : i < p.length := by have := Hm.out; omega
              obtain ⟨ia, hia, hka, hs1, hs2, hsn⟩ := ok.idx i hil
              have Hka := hidA hka
              have Hsa : Hid (0 ≤ l[ia].p ∧ l[ia].p ≤ 32) := ⟨hs1, hs2⟩
              clear hs1 hs2 hsn
              have hpw := hp.ext hF.fb.ext
              obtain ⟨ad, rfl, hbk, _⟩ := hp.at (k := i) (by rw [pcells_length]; omega)
              obtain ⟨d0, d1, d2, d3, d4⟩ := hpw.plant hil
              obtain ⟨ki, xi, yi, si, gi, hpi⟩ : ∃ ki xi yi si gi, p[i] = PlantR.mk ki xi yi si gi := ⟨_, _, _, _, _, rfl⟩
              have Hpi := hidA hpi
              rw [hpi] at d0 d1 d2 d3 d4 hka
              dsimp only at d0 d1 d2 d3 d4 hka
              subst hka
              clear hpi
              have i0 : (0 : Int) ≤ i := by omega
              have i1 : (i : Int) < m := by omega
              have kp := hF.fb.pb.cell 0
              have kpl := hF.fb.pb.lt
              obtain ⟨w5, hw5⟩ : ∃ w5, w5 = wr.alloc (.cells #[.int .i64 (ia : Int), .int .i64 xi, .int .i64 yi, .float .f32 si, .int .i64 gi] 46) := ⟨_, rfl⟩
              go_wp2_with fail
              rw [← hw5]
              have hX5 : Bk w5 wr.heap.size 46 #[.int .i64 (ia : Int), .int .i64 xi, .int .i64 yi, .float .f32 si, .int .i64 gi] := by rw [hw5]; exact Bk.new' rfl
              have hF5 := hF.step ((Ext.refl wr).alloc (.cells #[.int .i64 (ia : Int), .int .i64 xi, .int .i64 yi, .float .f32 si, .int .i64 gi] 46))
              rw [← hw5] at hF5
              clear hw5 d0 d1 d2 d3 d4 hpw hF kp kpl
              generalize wr.heap.size = gx at *
              have hPJ := hP.toJ
              clear hP
              go_loopw [13, 63] (fun s13 s wr2 => ∃ (j : Nat) (b : Nat → Bool) (ag : Bool), j ≤ m ∧ s = .int .i64 j ∧ s13 = .bool ag ∧ BS w wr2 w.heap.size (w.heap.size + 1) (w.heap.size + 1 + 1) ga A n c (some ad) m d ax ay b ∧ Bk wr2 gx 46 #[.int .i64 (ia : Int), .int .i64 xi, .int .i64 yi, .float .f32 si, .int .i64 gi] ∧ Sub l p (spot ax ay) wind b ∧ PassJ l p wind m c0 b ag i j) (fun _ s _ => m - (intOf s).toNat)
              case atStart => exact ⟨0, b, ag, Nat.zero_le _, rfl, rfl, hF5, hX5, hS, hPJ⟩
              case round =>
                clear hF5 hX5 hS hPJ
                obtain ⟨j, b, ag, hj, rfl, rfl, hF, hX, hS, hP⟩ := hrel
                by_cases hjm : j < m
                · have hjl : j < p.length := by have := Hm.out; omega
                  obtain ⟨ib, hib, hkb, hb1, hb2, hbn⟩ := ok.idx j hjl
                  clear hbn
                  have HC := fun (w' : World) (F : FB w w' w.heap.size (w.heap.size + 1) (w.heap.size + 1 + 1) A n c (some ad) m d ax ay) => hidA (can_any w w' _ _ _ A n c l (some ad) m d ax ay p Hn.out Hm.out hd hp ok F j hjl)
                  have HSQ := fun (w : World) => hidA (refSquare_any p[i] p[j] w (ok.near i hil) (ok.near j hjl))
                  have hsub := far_sub (ok.near i hil) (ok.near j hjl)
                  have m1 := mul_in (stepX_in wind) hsub.1
                  have m2 := mul_in (stepY_in wind) hsub.2
                  have HE : Hid (edgeF l p wind i j = decide (((sqD p[i] p[j] : Nat) : Int) ≤ radE l[ia].p l[ib].p p[i] p[j] wind * radE l[ia].p l[ib].p p[i] p[j] wind)) := by show _ = _; unfold edgeF; rw [kindOf_at hil hia Hka.out, kindOf_at hjl hib hkb, getD_at hil, getD_at hjl]; rfl
                  have HD : Hid (radE l[ia].p l[ib].p p[i] p[j] wind = l[ia].p + l[ib].p + 1 + (if downB p[i] p[j] wind = true then 2 else 0)) := rfl
                  have HB : Hid (downB p[i] p[j] wind = (decide (0 ≤ wind) && decide (0 < (p[j].x - p[i].x) * stepX wind + (p[j].y - p[i].y) * stepY wind))) := rfl
                  have hR := rad_in (sa := l[ia].p) (sb := l[ib].p) Hsa.out ⟨hb1, hb2⟩ p[i] p[j] wind
                  have hq : sqD p[i] p[j] < 1152921504606846976 := (sq_int (ok.near i hil) (ok.near j hjl)).2.1
                  have hpw := hp.ext hF.fb.ext
                  obtain ⟨d0, d1, d2, d3, d4⟩ := hpw.plant hjl
                  obtain ⟨ak, rfl, hka2, _⟩ := hd.at (k := ia) (by rw [kcells_length]; omega)
                  have HG1 := fun (w' : World) (h : Ext w w') => hidA ((hd.ext h).space hia)
                  have HG2 := fun (w' : World) (h : Ext w w') => hidA ((hd.ext h).space hib)
                  rw [hkb] at d0
                  rw [Hpi.out] at HSQ hsub m1 m2 HE HD HB hR hq
                  generalize p[j] = x at *
                  obtain ⟨kj, xj, yj, sj, gj⟩ := x
                  dsimp only at d0 d1 d2 d3 d4 HSQ hsub m1 m2 HB
                  clear hkb
                  have a0 : (0 : Int) ≤ ia := by omega
                  have a1 : (ia : Int) < n := by have := Hn.out; omega
                  have b0 : (0 : Int) ≤ ib := by omega
                  have b1 : (ib : Int) < n := by have := Hn.out; omega
                  have i0 : (0 : Int) ≤ i := by omega
                  have i1 : (i : Int) < m := by omega
                  have j0 : (0 : Int) ≤ j := by omega
                  have j1 : (j : Int) < m := by omega
                  have hsa : 0 ≤ l[ia].p ∧ l[ia].p ≤ 32 := Hsa.out
                  generalize radE l[ia].p l[ib].p _ _ wind = rr at *
                  generalize downB _ _ wind = db at *
                  generalize sqD _ _ = sq at *
                  generalize l[ia].p = sa at *
                  generalize l[ib].p = sb at *
                  obtain ⟨w5, hw5⟩ : ∃ w5, w5 = wr.alloc (.cells #[.int .i64 (ib : Int), .int .i64 xj, .int .i64 yj, .float .f32 sj, .int .i64 gj] 46) := ⟨_, rfl⟩
                  go_upto_region 17 with fail
                  rw [← hw5]
                  have hY5 : Bk w5 wr.heap.size 46 #[.int .i64 (ib : Int), .int .i64 xj, .int .i64 yj, .float .f32 sj, .int .i64 gj] := by rw [hw5]; exact Bk.new' rfl
                  have hF5 := hF.step ((Ext.refl wr).alloc (.cells #[.int .i64 (ib : Int), .int .i64 xj, .int .i64 yj, .float .f32 sj, .int .i64 gj] 46))
                  have hX5 := hX.alloc (.cells #[.int .i64 (ib : Int), .int .i64 xj, .int .i64 yj, .float .f32 sj, .int .i64 gj] 46)
                  rw [← hw5] at hF5 hX5
                  clear hw5 d0 d1 d2 d3 d4 hpw hF hX hka2
                  generalize wr.heap.size = gy at *
                  have ci : w5.cell? ⟨ga, i, none⟩ = some (.bool (b i)) := by rw [hF5.ab.cell]; exact bools_get b (by omega)
                  have cj : w5.cell? ⟨ga, j, none⟩ = some (.bool (b j)) := by rw [hF5.ab.cell]; exact bools_get b hjm
                  cases hbi : b i
                  · rw [hbi] at ci
                    go_wp2_with fail
                    go_roundw
                    case rel => exact ⟨j + 1, b, ag, by omega, congrArg (Value.int .i64) (by omega), rfl, hF5, hX5, hS, hP.skip (fun h1 h2 h3 => (by rw [hbi] at h1; cases h1))⟩
                    case measure => simp [intOf]; omega
                  · rw [hbi] at ci
                    cases hbj : b j
                    · rw [hbj] at cj
                      go_wp2_with fail
                      refine ((HC _ hF5.fb).out).mono ?_
                      rintro e w6 ⟨rfl, hb6⟩
                      have hF6 := hF5.step hb6
                      have hX6 := hX5.ext hb6
                      have hY6 := hY5.ext hb6
                      clear HC hF5 hX5 hY5 hb6 ci cj w5
                      cases hcan : canF l p j
                      · clear HE HD HB HSQ HG1 HG2
                        go_wp2_with fail
                        go_roundw
                        case rel => exact ⟨j + 1, b, ag, by omega, congrArg (Value.int .i64) (by omega), rfl, hF6, hX6, hS, hP.skip (fun h1 h2 h3 => (by rw [hcan] at h3; cases h3))⟩
                        case measure => simp [intOf]; omega
                      · have hxw := hF6.fb.ext
                        have g1 := (HG1 w6 hxw).out
                        have g2 := (HG2 w6 hxw).out
                        have c0 := hX6.cell 0
                        have d0 := hY6.cell 0
                        have k0 := hF6.fb.kb.cell 0
                        go_upto_region 18 with fail
                        go_quiet (fail)
                        obtain ⟨w7, hw7⟩ : ∃ w7, w7 = w6.drewN nq := ⟨_, rfl⟩
                        rw [← hw7]
                        have hq7 : Ext w6 w7 := by rw [hw7]; exact (Ext.refl w6).drewN nq
                        have hF7 := hF6.step hq7
                        have hX7 := hX6.ext hq7
                        have hY7 := hY6.ext hq7
                        clear hw7 hq7 g1 g2 c0 d0 k0 hF6 hX6 hY6 hxw HG1 HG2 w6
                        obtain ⟨R2, hR2⟩ : ∃ R2 : Int, R2 = rr * rr := ⟨_, rfl⟩
                        have hR2b : 0 ≤ R2 ∧ R2 ≤ 4489 := by
                          rw [hR2]
                          obtain ⟨k, hk⟩ : ∃ k : Nat, rr = (k : Int) := ⟨rr.toNat, by omega⟩
                          subst hk
                          have : k * k ≤ 67 * 67 := Nat.mul_le_mul (by omega) (by omega)
                          rw [← Int.natCast_mul]
                          omega
                        have W4 : wrap64 (rr * rr) = R2 := by rw [← hR2]; exact IntWalk.wrap64_in _ ⟨by omega, by omega⟩
                        rw [← hR2] at HE
                        have V1 : wrap64 (xj - xi) = xj - xi := IntWalk.wrap64_in _ ⟨by omega, by omega⟩
                        have V2 : wrap64 (yj - yi) = yj - yi := IntWalk.wrap64_in _ ⟨by omega, by omega⟩
                        by_cases hwn : 0 ≤ wind
                        · have HB2 : Hid (db = decide (0 < (xj - xi) * stepX wind + (yj - yi) * stepY wind)) := by show _ = _; rw [HB.out, decide_eq_true hwn]; rfl
                          have HT2 := fun (w : World) => hidA (step_any wind w hwn hw.2)
                          clear HB
                          generalize stepX wind = tx at *
                          generalize stepY wind = ty at *
                          go_wp2_with fail
                          refine ((HT2 _).out).mono ?_
                          rintro e w8 ⟨rfl, hb8⟩
                          have hF8 := hF7.step hb8
                          have hX8 := hX7.ext hb8
                          have hY8 := hY7.ext hb8
                          clear hF7 hX7 hY7 hb8 HT2 w7
                          generalize hP1 : (xj - xi) * tx = p1 at *
                          generalize hP2 : (yj - yi) * ty = p2 at *
                          have c0 := hX8.cell 0
                          have c1 := hX8.cell 1
                          have c2 := hX8.cell 2
                          have c3 := hX8.cell 3
                          have c4 := hX8.cell 4
                          have d0 := hY8.cell 0
                          have d1 := hY8.cell 1
                          have d2 := hY8.cell 2
                          have d3 := hY8.cell 3
                          have d4 := hY8.cell 4
                          by_cases hpp : 0 < p1 + p2
                          · have hdb : db = true := by rw [HB2.out]; exact decide_eq_true hpp
                            subst hdb
                            obtain rfl : rr = sa + sb + 1 + 2 := by have := HD.out; simpa using this
                            clear HD HB2 hR2
                            have hsu := hS.up hil hjl hbi
                            go_wp2_with fail
                            refine ((HSQ _).out).mono ?_
                            rintro e w9 ⟨rfl, hw9⟩
                            have hw9 := hw9.symm
                            subst hw9
                            have gcc : w8.cell? ⟨ga, j, none⟩ = some (.bool (b j)) := by rw [hF8.ab.cell]; exact bools_get b hjm
                            have gcf := hF8.ab.frozen j
                            by_cases hsq : (sq : Int) ≤ R2
                            · have hed : edgeF l p wind i j = true := by rw [HE.out]; exact decide_eq_true hsq
                              have hS7 := hsu hed hcan
                              have hP7 := hP.burn hjm hbj
                              have hFz := hF8.burn j true
                              have hXz : Bk (w8.setCell ⟨ga, j, none⟩ (.bool true)) gx 46 #[.int .i64 (ia : Int), .int .i64 xi, .int .i64 yi, .float .f32 si, .int .i64 gi] := hX8.far (hX8.ne hF8.ab (by decide)) _
                              clear HE hed hsu hcan hbi hbj
                              go_wp2_with fail
                              go_roundw
                              case rel => exact ⟨j + 1, upB b j true, true, by omega, congrArg (Value.int .i64) (by omega), rfl, hFz, hXz, hS7, hP7⟩
                              case measure => simp [intOf]; omega
                            · have hed : edgeF l p wind i j = false := by rw [HE.out]; exact decide_eq_false hsq
                              clear HE hsu gcc gcf
                              go_wp2_with fail
                              go_roundw
                              case rel => exact ⟨j + 1, b, ag, by omega, congrArg (Value.int .i64) (by omega), rfl, hF8, hX8, hS, hP.skip (fun h1 h2 h3 => (by rw [hed] at h2; cases h2))⟩
                              case measure => simp [intOf]; omega
                          · have hdb : db = false := by rw [HB2.out]; exact decide_eq_false hpp
                            subst hdb
                            obtain rfl : rr = sa + sb + 1 := by have := HD.out; simpa using this
                            clear HD HB2 hR2
                            have hsu := hS.up hil hjl hbi
                            go_wp2_with fail
                            refine ((HSQ _).out).mono ?_
                            rintro e w9 ⟨rfl, hw9⟩
                            have hw9 := hw9.symm
                            subst hw9
                            have gcc : w8.cell? ⟨ga, j, none⟩ = some (.bool (b j)) := by rw [hF8.ab.cell]; exact bools_get b hjm
                            have gcf := hF8.ab.frozen j
                            by_cases hsq : (sq : Int) ≤ R2
                            · have hed : edgeF l p wind i j = true := by rw [HE.out]; exact decide_eq_true hsq
                              have hS7 := hsu hed hcan
                              have hP7 := hP.burn hjm hbj
                              have hFz := hF8.burn j true
                              have hXz : Bk (w8.setCell ⟨ga, j, none⟩ (.bool true)) gx 46 #[.int .i64 (ia : Int), .int .i64 xi, .int .i64 yi, .float .f32 si, .int .i64 gi] := hX8.far (hX8.ne hF8.ab (by decide)) _
                              clear HE hed hsu hcan hbi hbj
                              go_wp2_with fail
                              go_roundw
                              case rel => exact ⟨j + 1, upB b j true, true, by omega, congrArg (Value.int .i64) (by omega), rfl, hFz, hXz, hS7, hP7⟩
                              case measure => simp [intOf]; omega
                            · have hed : edgeF l p wind i j = false := by rw [HE.out]; exact decide_eq_false hsq
                              clear HE hsu gcc gcf
                              go_wp2_with fail
                              go_roundw
                              case rel => exact ⟨j + 1, b, ag, by omega, congrArg (Value.int .i64) (by omega), rfl, hF8, hX8, hS, hP.skip (fun h1 h2 h3 => (by rw [hed] at h2; cases h2))⟩
                              case measure => simp [intOf]; omega
                        · have hdb : db = false := by rw [HB.out, decide_eq_false hwn]; rfl
                          subst hdb
                          obtain rfl : rr = sa + sb + 1 := by have := HD.out; simpa using this
                          clear HD HB hR2 m1 m2
                          have c0 := hX7.cell 0
                          have c1 := hX7.cell 1
                          have c2 := hX7.cell 2
                          have c3 := hX7.cell 3
                          have c4 := hX7.cell 4
                          have d0 := hY7.cell 0
                          have d1 := hY7.cell 1
                          have d2 := hY7.cell 2
                          have d3 := hY7.cell 3
                          have d4 := hY7.cell 4
                          have hsu := hS.up hil hjl hbi
                          go_wp2_with fail
                          refine ((HSQ _).out).mono ?_
                          rintro e w9 ⟨rfl, hw9⟩
                          have hw9 := hw9.symm
                          subst hw9
                          have gcc : w7.cell? ⟨ga, j, none⟩ = some (.bool (b j)) := by rw [hF7.ab.cell]; exact bools_get b hjm
                          have gcf := hF7.ab.frozen j
                          by_cases hsq : (sq : Int) ≤ R2
                          · have hed : edgeF l p wind i j = true := by rw [HE.out]; exact decide_eq_true hsq
                            have hS7 := hsu hed hcan
                            have hP7 := hP.burn hjm hbj
                            have hFz := hF7.burn j true
                            have hXz : Bk (w7.setCell ⟨ga, j, none⟩ (.bool true)) gx 46 #[.int .i64 (ia : Int), .int .i64 xi, .int .i64 yi, .float .f32 si, .int .i64 gi] := hX7.far (hX7.ne hF7.ab (by decide)) _
                            clear HE hed hsu hcan hbi hbj
                            go_wp2_with fail
                            go_roundw
                            case rel => exact ⟨j + 1, upB b j true, true, by omega, congrArg (Value.int .i64) (by omega), rfl, hFz, hXz, hS7, hP7⟩
                            case measure => simp [intOf]; omega
                          · have hed : edgeF l p wind i j = false := by rw [HE.out]; exact decide_eq_false hsq
                            clear HE hsu gcc gcf
                            go_wp2_with fail
                            go_roundw
                            case rel => exact ⟨j + 1, b, ag, by omega, congrArg (Value.int .i64) (by omega), rfl, hF7, hX7, hS, hP.skip (fun h1 h2 h3 => (by rw [hed] at h2; cases h2))⟩
                            case measure => simp [intOf]; omega
                    · rw [hbj] at cj
                      go_wp2_with fail
                      go_roundw
                      case rel => exact ⟨j + 1, b, ag, by omega, congrArg (Value.int .i64) (by omega), rfl, hF5, hX5, hS, hP.skip (fun h1 h2 h3 => hbj)⟩
                      case measure => simp [intOf]; omega
                · obtain rfl : m = j := by omega
                  have hP2 := hP.done
                  clear hP
                  go_wp2_with fail
                  go_roundw
                  case rel => exact ⟨i + 1, b, ag, by omega, congrArg (Value.int .i64) (by omega), rfl, hF, hS, hP2⟩
                  case measure => simp [intOf]; omega
            · obtain rfl : m = i := by omega
              have hle := cnt_le b m
              rcases hP with ⟨rfl, h2, h3⟩ | ⟨rfl, h2⟩
              · have Hc := hidA h3
                have Hcnt : Hid (2 * (m - cnt b m) < gk) := by show _ < _; have := Hg.out; omega
                clear h2 h3
                go_wp2_with fail
                go_roundg (2 * (m - cnt b m))
                case measure => exact Hcnt.out
                case rel => exact ⟨b, false, rfl, hF, hS, (fun _ => Hc.out), (by simp)⟩
              · have Hcnt : Hid (2 * (m - cnt b m) + 1 < gk) := by show _ < _; have := Hg.out; omega
                clear h2
                go_wp2_with fail
                go_roundg (2 * (m - cnt b m) + 1)
                case measure => exact Hcnt.out
                case rel => exact ⟨b, true, rfl, hF, hS, (fun h => by cases h), (by simp)⟩
end Go.Proofs.YtgaonoklbihkjaaDoor
