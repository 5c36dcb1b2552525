/- Contract: plant.Burn. -/
import Derived.Test.YtgaonoklbihkjaaDoorFireR
import Derived.Deep.DeepCutAuto
namespace Go.Proofs.YtgaonoklbihkjaaDoor
open Go.RowKit
attribute [local go_sem ↓] Go.wp_at_zero Go.wp_at_succ
attribute [local go_sem] run_store_float

theorem infoBool : (Tryd.prog.info? 4).map (fun i => (i.zero, i.size, i.bytes)) = some (some (.bool false), 1, 1) := by kernel_rfl
theorem mk_bool (n : Nat) (hn : n ≤ 262144) (w : World) : (Instr.makeSlice 91 (.int .i64 (n : Int)) (.int .i64 (n : Int))).run Tryd.prog w =
    .ok (.slice (some ⟨w.heap.size, 0, none⟩) n n) (w.alloc (.cells (bools n fun _ => false) 4)) := by
  obtain ⟨i0, hi0, hz0, hz1, hz2⟩ := info_parts infoBool
  have h := run_make (P := Tryd.prog) w 91 4 i0 (.bool false) Tryd.underlying91 hi0 hz0 .i64 .i64 n n (by omega) (by omega) (by rw [hz2]; omega) (by omega)
  rw [hz1] at h
  have e : madeCells (Value.bool false).cells ((n : Int).toNat * 1) = bools n fun _ => false := by
    rw [Int.toNat_natCast]
    unfold madeCells bools
    apply Array.ext
    · simp
    · intro i h1 h2
      simp [Value.cells, Nat.mod_one]
  rw [e] at h
  simpa using h
theorem OwnI.form2 {w : World} {base : Nat} {qv : Value} {q : List Nat} (h : OwnI w base qv q) : ∃ Aq cap, qv = .slice Aq q.length cap ∧ q.length ≤ cap := by
  rcases h.form with ⟨rfl, rfl⟩ | ⟨g, cap, rfl, h2⟩
  · exact ⟨none, 0, rfl, Nat.le_refl _⟩
  · exact ⟨_, _, rfl, h2⟩
theorem filter_succ (b : Nat → Bool) (k : Nat) : (List.range (k + 1)).filter b = (List.range k).filter b ++ (if b k = true then [k] else []) := by
  rw [List.range_succ, List.filter_append]
  simp [List.filter]
  cases b k <;> rfl
abbrev GoodF (l : List KindR) (p : List PlantR) (z : PlantR) (wind : Int) := Good p.length (nearF p z) (canF l p) (edgeF l p wind)
abbrev BegunF (l : List KindR) (p : List PlantR) (z : PlantR) := Begun (nearF p z) (canF l p)
abbrev SpreadF (l : List KindR) (p : List PlantR) (wind : Int) := Spread p.length (canF l p) (edgeF l p wind)

section
variable {W0 w : World} {hl hp ht hb hq ga : Nat} {A : Option Addr} {n c : Nat} {l : List KindR} {B : Option Addr} {m d : Nat} {ax ay : Int} {p : List PlantR} {b : Nat → Bool} {q : List Nat} {qv : Value}
theorem light_ok (hn : l.length = n) (hm : p.length = m) (hd0 : Rd W0 A (kcells l)) (hp0 : Rd W0 B (pcells p)) (ok : PlantsOk l p) (hF : FS W0 w hl hp ht hb hq ga A n c B m d ax ay b q qv) (hq4 : q.length ≤ 4000) (i : Nat) (hi : i < p.length) (near : Bool) :
    Calls Tryd.prog 47 #[.int .i64 i, .bool near, .pointer (some ⟨hb, 0, none⟩), .pointer (some ⟨hl, 0, none⟩), .pointer (some ⟨hp, 0, none⟩), .pointer (some ⟨hq, 0, none⟩)] w fun e w' => e = .returned (.tuple #[]) ∧ ∃ b' q' qv', FS W0 w' hl hp ht hb hq ga A n c B m d ax ay b' q' qv' ∧ Lit near (canF l p i) i b q b' q' := by
  obtain ⟨ia, hia, hk, _⟩ := ok.idx i hi
  have h := light_any W0 w hl hp ht hb hq ga A n c l B m d ax ay p b q qv hn hm hd0 hp0 hF hq4 i ia hi hia hk near
  have e : canF l p i = litB l[ia].a9 p[i].x p[i].y := by unfold canF; rw [kindOf_at hi hia hk, getD_at hi]
  rw [← e] at h
  exact h
theorem lights_ok (hn : l.length = n) (hd : Rd w A (kcells l)) (ok : PlantsOk l p) {i j : Nat} (hi : i < p.length) (hj : j < p.length) {wind : Int} (hw : -1 ≤ wind ∧ wind < 8) :
    Calls Tryd.prog 50 #[.slice A n c, p[i].v, p[j].v, .int .i64 wind] w fun e w' => e = .returned (.bool (edgeF l p wind i j)) ∧ Ext w w' := by
  obtain ⟨ia, hia, hk, h1, h2, _⟩ := ok.idx i hi
  obtain ⟨ib, hib, hkb, g1, g2, _⟩ := ok.idx j hj
  have h := lights_any A n c l p[i] p[j] ia ib wind w hn hd hia hib hk hkb ⟨h1, h2⟩ ⟨g1, g2⟩ (ok.near i hi) (ok.near j hj) hw
  have e : edgeF l p wind i j = edgeB l[ia].p l[ib].p p[i] p[j] wind := by unfold edgeF; rw [kindOf_at hi hia hk, kindOf_at hj hib hkb, getD_at hi, getD_at hj]
  rw [← e] at h
  exact h
end

set_option maxRecDepth 100000 in
set_option maxHeartbeats 6400000 in
theorem Burn_ok (A : Option Addr) (n c : Nat) (l : List KindR) (B : Option Addr) (m d : Nat) (p : List PlantR) (ax ay wind : Int) (w : World) (hn : l.length = n) (hd : Rd w A (kcells l)) (hb : n ≤ 4000000000000) (hc : n ≤ c) (hsz : ∀ x ∈ l, x.s.size ≤ 9223372036854775807) (hm : p.length = m) (hp : Rd w B (pcells p)) (hbm : m ≤ 4000000000000) (h0 : plantsE l p = 0) (hat : (spot ax ay).farB = false) (hw : -1 ≤ wind ∧ wind < 8) :
    Calls Tryd.prog 26 #[.slice A n c, .slice B m d, .agg #[.int .i64 ax, .int .i64 ay], .int .i64 wind] w fun e w' => ∃ (v : Value) (b : Nat → Bool), e = .returned (.tuple #[v, .int .i64 0]) ∧ OwnI w' w.heap.size v ((List.range m).filter b) ∧ (∀ i, i < m → (b i = true ↔ ReachF l p (spot ax ay) wind i)) ∧ Ext w w' := by
  have HC := fun (w : World) (hd : Rd w A (kcells l)) (hp : Rd w B (pcells p)) => hidA (checkPlants_any A n c l B m d p w hn hd hb hc hsz hm hp hbm)
  rw [h0] at HC
  have ok := plantsOk h0
  have HP := fun (w : World) => hidA (checkPlace_any ax ay w)
  have hfa : decide (ax < -4194304 ∨ 4194304 < ax ∨ ay < -4194304 ∨ 4194304 < ay) = false := hat
  rw [hfa] at HP
  have hm4 : m ≤ 4000 := by have := ok.small; omega
  have hmk := mk_bool m (by omega)
  have Hat := hidA hat
  have Hm := hidA hm
  have Hn := hidA hn
  clear h0 hsz hn hm hat hfa
  go_enter Tryd.func26, Tryd.ntmps26
  go_wp2_with fail
  refine ((HC _ (((hd.alloc _).alloc _).alloc _) (((hp.alloc _).alloc _).alloc _)).out).mono ?_
  rintro e w1 ⟨rfl, hb1⟩
  have k1 : Bk w1 w.heap.size 22 #[.slice A n c] := (((Bk.new' rfl).alloc _).alloc _).ext hb1
  have k2 : Bk w1 (w.heap.size + 1) 23 #[.slice B m d] := ((Bk.new' (by simp)).alloc _).ext hb1
  have k3 : Bk w1 (w.heap.size + 1 + 1) 36 #[.int .i64 ax, .int .i64 ay] := (Bk.new' (by simp)).ext hb1
  have hx1 : Ext w w1 := ((((Ext.refl w).alloc _).alloc _).alloc _).trans hb1
  clear HC hb1
  have c0 := k3.cell 0
  have c1 := k3.cell 1
  have c2 := k2.cell 0
  have l1 := k1.lt
  have l2 := k2.lt
  have l3 := k3.lt
  go_wp2_with fail
  refine ((HP _).out).mono ?_
  rintro e w2 ⟨rfl, rfl⟩
  obtain ⟨w3, hw3⟩ : ∃ w3, w3 = ((w2.alloc (.cells (bools m fun _ => false) 4)).alloc (.cells #[.slice (some ⟨w2.heap.size, 0, none⟩) m m] 91)).alloc (.cells #[.slice none 0 0] 67) := ⟨_, rfl⟩
  go_wp2_with fail
  rw [← hw3]
  have hsz2 := hx1.size
  have hF : FS w w3 w.heap.size (w.heap.size + 1) (w.heap.size + 1 + 1) (w2.heap.size + 1) (w2.heap.size + 1 + 1) w2.heap.size A n c B m d ax ay (fun _ => false) [] (.slice none 0 0) := by
    rw [hw3]
    refine ⟨((k1.alloc _).alloc _).alloc _, ((k2.alloc _).alloc _).alloc _, ((k3.alloc _).alloc _).alloc _, (Bk.new' (by simp)).alloc _, ((Bk.new' rfl).alloc _).alloc _, Bk.new' (by simp), OwnI.nil _ _, ((hx1.alloc _).alloc _).alloc _, hsz2, by omega⟩
  clear hw3 c0 c1 c2 l1 l2 l3 k1 k2 k3 hsz2 hmk
  generalize w2.heap.size + 1 + 1 = hq at *
  generalize w2.heap.size + 1 = hb at *
  generalize w2.heap.size = ga at *
  clear hx1 w2
  have hG : GoodF l p (spot ax ay) wind (fun _ => false) [] := Good.start
  go_loopw [48] (fun s wr => ∃ (k : Nat) (b : Nat → Bool) (q : List Nat) (qv : Value), k ≤ m ∧ s = .int .i64 k ∧ FS w wr w.heap.size (w.heap.size + 1) (w.heap.size + 1 + 1) hb hq ga A n c B m d ax ay b q qv ∧ GoodF l p (spot ax ay) wind b q ∧ BegunF l p (spot ax ay) k b) (fun s _ => m - (intOf s).toNat)
  case atStart => exact ⟨0, _, _, _, Nat.zero_le _, rfl, hF, hG, fun i hi => absurd hi (by omega)⟩
  case round =>
    clear hF hG
    obtain ⟨k, b, q, qv, hk, rfl, hF, hG, hB⟩ := hrel
    by_cases hlt : k < m
    · have hkl : k < p.length := by have := Hm.out; omega
      have HLi := fun (w' : World) (F : FS w w' w.heap.size (w.heap.size + 1) (w.heap.size + 1 + 1) hb hq ga A n c B m d ax ay b q qv) (near : Bool) => hidA (light_ok Hn.out Hm.out hd hp ok F (by have := hG.len; have := Hm.out; omega) k hkl near)
      have HSQ := fun (w : World) => hidA (square_any p[k] (spot ax ay) w (ok.near k hkl) Hat.out)
      have HNr : Hid (decide (((sqD p[k] (spot ax ay) : Nat) : Int) ≤ 9) = nearF p (spot ax ay) k) := by show _ = _; unfold nearF; rw [getD_at hkl]
      have hpw := hp.ext hF.ext
      obtain ⟨ad, rfl, hbk, _⟩ := hp.at (k := k) (by rw [pcells_length]; omega)
      obtain ⟨d0, d1, d2, d3, d4⟩ := hpw.plant hkl
      have hre : nearF p (spot ax ay) k = true → canF l p k = true → ReachF l p (spot ax ay) wind k := fun h1 h2 => Reach.base hkl h1 h2
      generalize sqD p[k] (spot ax ay) = sq at *
      generalize p[k] = x at *
      obtain ⟨kd, px, py, sz, ag⟩ := x
      dsimp only at d0 d1 d2 d3 d4
      dsimp only [PlantR.v, spot] at HSQ
      have i0 : (0 : Int) ≤ k := by omega
      have i1 : (k : Int) < m := by omega
      have c0 := hF.tb.cell 0
      have c1 := hF.tb.cell 1
      have hlt3 := hF.tb.lt
      go_wp2_with fail
      refine ((HSQ _).out).mono ?_
      rintro e w6 ⟨rfl, hb6⟩
      have hF6 := (hF.step ((Ext.refl wr).alloc _)).step hb6
      clear HSQ hb6 c0 c1 d0 d1 d2 d3 d4 hpw hlt3
      go_wp2_with fail
      refine ((HLi _ hF6 _).out).mono ?_
      rintro e w7 ⟨rfl, b', q', qv', hF7, hlit⟩
      rw [HNr.out] at hlit
      obtain ⟨hG7, hm7, _, hn7⟩ := hG.lit hkl hre hlit
      have hB7 : BegunF l p (spot ax ay) (k + 1) b' := fun i hi h1 h2 => by
        by_cases e : i = k
        · subst e; exact hn7 h1 h2
        · exact hm7 i (hB i (by omega) h1 h2)
      clear hlit hF6 hF hG hB HLi
      go_wp2_with fail
      go_roundw
      case rel => exact ⟨k + 1, b', q', qv', by omega, congrArg (Value.int .i64) (by omega), hF7, hG7, hB7⟩
      case measure => simp [intOf]; omega
    · obtain rfl : m = k := by omega
      rw [← Hm.out] at hB
      clear hk hlt
      have HBb := hidA hB
      go_wp2_with fail
      go_loopw [17] (fun s wr2 => ∃ (nn : Nat) (b : Nat → Bool) (q : List Nat) (qv : Value), nn ≤ q.length ∧ s = .int .i64 nn ∧ FS w wr2 w.heap.size (w.heap.size + 1) (w.heap.size + 1 + 1) hb hq ga A n c B m d ax ay b q qv ∧ GoodF l p (spot ax ay) wind b q ∧ BegunF l p (spot ax ay) p.length b ∧ SpreadF l p wind nn b q) (fun s _ => m - (intOf s).toNat)
      case atStart => exact ⟨0, b, q, qv, Nat.zero_le _, rfl, hF, hG, HBb.out, fun t i ht => absurd ht (by omega)⟩
      case round =>
        clear hF hG hB HBb
        obtain ⟨nn, b, q, qv, hk2, rfl, hF, hG, hB, hS⟩ := hrel
        obtain ⟨Aq, capq, rfl, hcq⟩ := hF.own.form2
        have hql := hG.len
        have c0 := hF.qb.cell 0
        by_cases hlt : nn < q.length
        · obtain ⟨ii, hii⟩ : ∃ ii, q[nn]? = some ii := ⟨_, List.getElem?_eq_getElem hlt⟩
          have hir := hG.g2 ii (List.mem_of_getElem? hii)
          have c1 := hF.pb.cell 0
          go_wp2_with fail
          go_loopw [73] (fun s wr3 => ∃ (j : Nat) (b : Nat → Bool) (q : List Nat) (qv : Value), j ≤ m ∧ s = .int .i64 j ∧ FS w wr3 w.heap.size (w.heap.size + 1) (w.heap.size + 1 + 1) hb hq ga A n c B m d ax ay b q qv ∧ GoodF l p (spot ax ay) wind b q ∧ BegunF l p (spot ax ay) p.length b ∧ SpreadF l p wind nn b q ∧ nn < q.length ∧ q[nn]? = some ii ∧ ∀ j', j' < j → edgeF l p wind ii j' = true → canF l p j' = true → b j' = true) (fun s _ => m - (intOf s).toNat)
          case atStart => exact ⟨0, b, q, _, Nat.zero_le _, rfl, hF, hG, hB, hS, hlt, hii, fun j' h => absurd h (by omega)⟩
          case round =>
            clear hF hG hB hS hlt hii hk2 hql c0 c1 hcq
            obtain ⟨j, b, q, qv, hj, rfl, hF, hG, hB, hS, hlt, hii, hE⟩ := hrel
            by_cases hjm : j < m
            · have hjl : j < p.length := by have := Hm.out; omega
              have hil := hir.1
              have HLi := fun (w' : World) (F : FS w w' w.heap.size (w.heap.size + 1) (w.heap.size + 1 + 1) hb hq ga A n c B m d ax ay b q qv) (near : Bool) => hidA (light_ok Hn.out Hm.out hd hp ok F (by have := hG.len; have := Hm.out; omega) j hjl near)
              have HLs := fun (w' : World) (h : Rd w' A (kcells l)) => hidA (lights_ok (c := c) Hn.out h ok hil hjl hw)
              have hre : edgeF l p wind ii j = true → canF l p j = true → ReachF l p (spot ax ay) wind j := fun h1 h2 => Reach.step hir.2 hjl h1 h2
              have hGl := fun (b' : Nat → Bool) (q' : List Nat) (h : Lit (edgeF l p wind ii j) (canF l p j) j b q b' q') => hidA (hG.lit hjl hre h)
              have Hrest := hidA (show GoodF l p (spot ax ay) wind b q ∧ BegunF l p (spot ax ay) p.length b ∧ SpreadF l p wind nn b q ∧ nn < q.length ∧ q[nn]? = some ii ∧ ∀ j', j' < j → edgeF l p wind ii j' = true → canF l p j' = true → b j' = true from ⟨hG, hB, hS, hlt, hii, hE⟩)
              obtain ⟨Aq, capq, rfl, hcq⟩ := hF.own.form2
              have HR := hidA (hF.own.rd rfl)
              obtain ⟨aq, rfl, haq, _⟩ := HR.out.at (k := nn) (by rw [ints_length]; exact hlt)
              obtain ⟨ad, rfl, hbk, _⟩ := hp.at (k := ii) (by rw [pcells_length]; omega)
              have hqn : wr.cell? (aq.add nn) = some (.int .i64 (ii : Int)) := by
                have e : (ints q)[nn]? = some (.int .i64 ((q[nn]'hlt : Nat) : Int)) := ints_get hlt
                have e2 : q[nn]'hlt = ii := by rw [List.getElem?_eq_getElem hlt] at hii; exact Option.some.inj hii
                rw [e2] at e
                exact HR.out.reads nn _ e
              have c0 := hF.qb.cell 0
              have hFB := hF.fb
              have F4 := fun (w' : World) (h : FB w w' w.heap.size (w.heap.size + 1) (w.heap.size + 1 + 1) A n c (some ad) m d ax ay) => h.kb.cell 0
              have F5 := fun (w' : World) (h : FB w w' w.heap.size (w.heap.size + 1) (w.heap.size + 1 + 1) A n c (some ad) m d ax ay) => h.pb.cell 0
              have Dj := fun (w' : World) (h : FB w w' w.heap.size (w.heap.size + 1) (w.heap.size + 1 + 1) A n c (some ad) m d ax ay) => hidA ((hp.ext h.ext).plant hjl)
              have Di := fun (w' : World) (h : FB w w' w.heap.size (w.heap.size + 1) (w.heap.size + 1 + 1) A n c (some ad) m d ax ay) => hidA ((hp.ext h.ext).plant hil)
              generalize p[j] = xj at *
              generalize p[ii] = xi at *
              obtain ⟨kd, px, py, sz, ag⟩ := xj
              obtain ⟨kd2, px2, py2, sz2, ag2⟩ := xi
              dsimp only [PlantR.v] at HLs
              dsimp only at Dj Di
              have d0 := fun (w' : World) h => (Dj w' h).out.1
              have d1 := fun (w' : World) h => (Dj w' h).out.2.1
              have d2 := fun (w' : World) h => (Dj w' h).out.2.2.1
              have d3 := fun (w' : World) h => (Dj w' h).out.2.2.2.1
              have d4 := fun (w' : World) h => (Dj w' h).out.2.2.2.2
              have g0 := fun (w' : World) h => (Di w' h).out.1
              have g1 := fun (w' : World) h => (Di w' h).out.2.1
              have g2 := fun (w' : World) h => (Di w' h).out.2.2.1
              have g3 := fun (w' : World) h => (Di w' h).out.2.2.2.1
              have g4 := fun (w' : World) h => (Di w' h).out.2.2.2.2
              have j0 : (0 : Int) ≤ j := by omega
              have j1 : (j : Int) < m := by omega
              have i0 : (0 : Int) ≤ ii := by omega
              have i1 : (ii : Int) < m := by have := Hm.out; omega
              have n0 : (0 : Int) ≤ nn := by omega
              have n1 : (nn : Int) < q.length := by omega
              generalize hed : edgeF l p wind ii j = ed at *
              have Hed := hidA hed
              clear hed
              clear hG hB hS hii hE hre Dj Di HR
              go_upto_region 23 with fail
              refine wp_region_noPanic ?_
              refine wp_region_held_drew (S := fun w' => FB w w' w.heap.size (w.heap.size + 1) (w.heap.size + 1 + 1) A n c (some ad) m d ax ay) (by kernel_rfl) ?_ (fun hHeld => ?_)
              · (first | assumption | exact FB.step (by assumption) (by assumption) | exact FB.step (by assumption) ((Ext.refl _).drew) | exact hF7.fb)
              refine wpAnyH_take (i := 0) (oi := ?o1x0) (v := ?v1x0) ?hi1x0 (by kernel_rfl) ?hf1x0 ?hr1x0 (fun _ _ _ h => h) ?hy1x0 (by assumption) ?rest1x0
              case hi1x0 => (simp only [List.getElem?_toArray, List.getElem?_cons_zero]; exact rfl)
              case hf1x0 => kernel_rfl
              case hr1x0 => kernel_rfl
              case hy1x0 => (refine Or.inl ⟨by rfl, ?_⟩; intro w hSw; (try dsimp only at hSw); go_simp; try with_reducible rfl)
              simp only [put_mk, List.set_cons_succ, List.set_cons_zero]
              refine wpAnyH_take (i := 1) (oi := ?o1x1) (v := ?v1x1) ?hi1x1 (by kernel_rfl) ?hf1x1 ?hr1x1 (fun _ _ _ h => h) ?hy1x1 (by assumption) ?rest1x1
              case hi1x1 => (simp only [List.getElem?_toArray, List.getElem?_cons_succ, List.getElem?_cons_zero]; exact rfl)
              case hf1x1 => kernel_rfl
              case hr1x1 => kernel_rfl
              case hy1x1 => (refine Or.inl ⟨by rfl, ?_⟩; intro w hSw; (try dsimp only at hSw); go_simp; try with_reducible rfl)
              simp only [put_mk, List.set_cons_succ, List.set_cons_zero]
              refine wpAnyH_take (i := 2) (oi := ?o1x2) (v := ?v1x2) ?hi1x2 (by kernel_rfl) ?hf1x2 ?hr1x2 (fun _ _ _ h => h) ?hy1x2 (by assumption) ?rest1x2
              case hi1x2 => (simp only [List.getElem?_toArray, List.getElem?_cons_succ, List.getElem?_cons_zero]; exact rfl)
              case hf1x2 => kernel_rfl
              case hr1x2 => kernel_rfl
              case hy1x2 => (refine Or.inl ⟨by rfl, ?_⟩; intro w hSw; (try dsimp only at hSw); go_simp; try with_reducible rfl)
              simp only [put_mk, List.set_cons_succ, List.set_cons_zero]
              refine wpAnyH_take (i := 3) (oi := ?o1x3) (v := ?v1x3) ?hi1x3 (by kernel_rfl) ?hf1x3 ?hr1x3 (fun _ _ _ h => h) ?hy1x3 (by assumption) ?rest1x3
              case hi1x3 => (simp only [List.getElem?_toArray, List.getElem?_cons_succ, List.getElem?_cons_zero]; exact rfl)
              case hf1x3 => kernel_rfl
              case hr1x3 => kernel_rfl
              case hy1x3 => (refine Or.inl ⟨by rfl, ?_⟩; intro w hSw; (try dsimp only at hSw); go_simp; try with_reducible rfl)
              simp only [put_mk, List.set_cons_succ, List.set_cons_zero]
              refine wpAnyH_take (i := 5) (oi := ?o1x5) (v := ?v1x5) ?hi1x5 (by kernel_rfl) ?hf1x5 ?hr1x5 (fun _ _ _ h => h) ?hy1x5 (by assumption) ?rest1x5
              case hi1x5 => (simp only [List.getElem?_toArray, List.getElem?_cons_succ, List.getElem?_cons_zero]; exact rfl)
              case hf1x5 => kernel_rfl
              case hr1x5 => kernel_rfl
              case hy1x5 => (refine Or.inl ⟨by rfl, ?_⟩; intro w hSw; (try dsimp only at hSw); go_simp; try with_reducible rfl)
              simp only [put_mk, List.set_cons_succ, List.set_cons_zero]
              refine wpAnyH_take (i := 10) (oi := ?o1x10) (v := ?v1x10) ?hi1x10 (by kernel_rfl) ?hf1x10 ?hr1x10 (fun _ _ _ h => h) ?hy1x10 (by assumption) ?rest1x10
              case hi1x10 => (simp only [List.getElem?_toArray, List.getElem?_cons_succ, List.getElem?_cons_zero]; exact rfl)
              case hf1x10 => kernel_rfl
              case hr1x10 => kernel_rfl
              case hy1x10 => (refine Or.inl ⟨by rfl, ?_⟩; intro w hSw; (try dsimp only at hSw); go_simp; try with_reducible rfl)
              simp only [put_mk, List.set_cons_succ, List.set_cons_zero]
              refine wpAnyH_take (i := 11) (oi := ?o1x11) (v := ?v1x11) ?hi1x11 (by kernel_rfl) ?hf1x11 ?hr1x11 (fun _ _ _ h => h) ?hy1x11 (by assumption) ?rest1x11
              case hi1x11 => (simp only [List.getElem?_toArray, List.getElem?_cons_succ, List.getElem?_cons_zero]; exact rfl)
              case hf1x11 => kernel_rfl
              case hr1x11 => kernel_rfl
              case hy1x11 => (refine Or.inl ⟨by rfl, ?_⟩; intro w hSw; (try dsimp only at hSw); go_simp; try with_reducible rfl)
              simp only [put_mk, List.set_cons_succ, List.set_cons_zero]
              refine wpAnyH_take (i := 12) (oi := ?o1x12) (v := ?v1x12) ?hi1x12 (by kernel_rfl) ?hf1x12 ?hr1x12 (fun _ _ _ h => h) ?hy1x12 (by assumption) ?rest1x12
              case hi1x12 => (simp only [List.getElem?_toArray, List.getElem?_cons_succ, List.getElem?_cons_zero]; exact rfl)
              case hf1x12 => kernel_rfl
              case hr1x12 => kernel_rfl
              case hy1x12 => (refine Or.inl ⟨by rfl, ?_⟩; intro w hSw; (try dsimp only at hSw); go_simp; try with_reducible rfl)
              simp only [put_mk, List.set_cons_succ, List.set_cons_zero]
              refine wpAnyH_take (i := 13) (oi := ?o1x13) (v := ?v1x13) ?hi1x13 (by kernel_rfl) ?hf1x13 ?hr1x13 (fun _ _ _ h => h) ?hy1x13 (by assumption) ?rest1x13
              case hi1x13 => (simp only [List.getElem?_toArray, List.getElem?_cons_succ, List.getElem?_cons_zero]; exact rfl)
              case hf1x13 => kernel_rfl
              case hr1x13 => kernel_rfl
              case hy1x13 => (refine Or.inl ⟨by rfl, ?_⟩; intro w hSw; (try dsimp only at hSw); go_simp; try with_reducible rfl)
              simp only [put_mk, List.set_cons_succ, List.set_cons_zero]
              refine wpAnyH_take (i := 14) (oi := ?o1x14) (v := ?v1x14) ?hi1x14 (by kernel_rfl) ?hf1x14 ?hr1x14 (fun _ _ _ h => h) ?hy1x14 (by assumption) ?rest1x14
              case hi1x14 => (simp only [List.getElem?_toArray, List.getElem?_cons_succ, List.getElem?_cons_zero]; exact rfl)
              case hf1x14 => kernel_rfl
              case hr1x14 => kernel_rfl
              case hy1x14 => (refine Or.inl ⟨by rfl, ?_⟩; intro w hSw; (try dsimp only at hSw); go_simp; try with_reducible rfl)
              simp only [put_mk, List.set_cons_succ, List.set_cons_zero]
              refine wpAnyH_ready (rs := [4]) (by kernel_rfl) (by simp) ?_
              refine AllReadyH.cons (o := ?o1x4) ?hi1x4 (fun K hK => ?_) AllReadyH.nil
              case hi1x4 => (simp only [List.getElem?_toArray, List.getElem?_cons_succ, List.getElem?_cons_zero]; exact rfl)
              go_simp
              refine hK.out _ _ ?_ (fun hHeld => ?_)
              · (first | assumption | exact FB.step (by assumption) (by assumption) | exact FB.step (by assumption) ((Ext.refl _).drew) | exact hF7.fb)
              clear hK K
              refine wpAnyH_take (i := 6) (oi := ?o1x6) (v := ?v1x6) ?hi1x6 (by kernel_rfl) ?hf1x6 ?hr1x6 (fun _ _ _ h => h) ?hy1x6 (by assumption) ?rest1x6
              case hi1x6 => (simp only [List.getElem?_toArray, List.getElem?_cons_succ, List.getElem?_cons_zero]; exact rfl)
              case hf1x6 => kernel_rfl
              case hr1x6 => kernel_rfl
              case hy1x6 => (refine Or.inl ⟨by rfl, ?_⟩; intro w hSw; (try dsimp only at hSw); go_simp; try with_reducible rfl)
              simp only [put_mk, List.set_cons_succ, List.set_cons_zero]
              refine wpAnyH_ready (rs := [7]) (by kernel_rfl) (by simp) ?_
              refine AllReadyH.cons (o := ?o1x7) ?hi1x7 (fun K hK => ?_) AllReadyH.nil
              case hi1x7 => (simp only [List.getElem?_toArray, List.getElem?_cons_succ, List.getElem?_cons_zero]; exact rfl)
              go_simp
              refine hK.out _ _ ?_ (fun hHeld => ?_)
              · (first | assumption | exact FB.step (by assumption) (by assumption) | exact FB.step (by assumption) ((Ext.refl _).drew) | exact hF7.fb)
              clear hK K
              refine wpAnyH_take (i := 8) (oi := ?o1x8) (v := ?v1x8) ?hi1x8 (by kernel_rfl) ?hf1x8 ?hr1x8 (fun _ _ _ h => h) ?hy1x8 (by assumption) ?rest1x8
              case hi1x8 => (simp only [List.getElem?_toArray, List.getElem?_cons_succ, List.getElem?_cons_zero]; exact rfl)
              case hf1x8 => kernel_rfl
              case hr1x8 => kernel_rfl
              case hy1x8 => (refine Or.inl ⟨by rfl, ?_⟩; intro w hSw; (try dsimp only at hSw); go_simp; try with_reducible rfl)
              simp only [put_mk, List.set_cons_succ, List.set_cons_zero]
              refine wpAnyH_take (i := 9) (oi := ?o1x9) (v := ?v1x9) ?hi1x9 (by kernel_rfl) ?hf1x9 ?hr1x9 (fun _ _ _ h => h) ?hy1x9 (by assumption) ?rest1x9
              case hi1x9 => (simp only [List.getElem?_toArray, List.getElem?_cons_succ, List.getElem?_cons_zero]; exact rfl)
              case hf1x9 => kernel_rfl
              case hr1x9 => kernel_rfl
              case hy1x9 => (refine Or.inl ⟨by rfl, ?_⟩; intro w hSw; (try dsimp only at hSw); go_simp; try with_reducible rfl)
              simp only [put_mk, List.set_cons_succ, List.set_cons_zero]
              refine wpAnyH_ready (rs := [15]) (by kernel_rfl) (by simp) ?_
              refine AllReadyH.cons (o := ?o1x15) ?hi1x15 (fun K hK => ?_) AllReadyH.nil
              case hi1x15 => (simp only [List.getElem?_toArray, List.getElem?_cons_succ, List.getElem?_cons_zero]; exact rfl)
              go_simp
              refine ((HLs _ (hd.ext (FB.step hHeld (Ext.refl _)).ext)).out).mono ?_
              rintro e w6 ⟨rfl, hb6⟩
              refine hK.out _ _ ?_ (fun hHeld => ?_)
              · (first | assumption | exact FB.step (by assumption) (by assumption) | exact FB.step (by assumption) ((Ext.refl _).drew) | exact hF7.fb)
              clear hK K
              refine wpAnyH_ready (rs := [16]) (by kernel_rfl) (by simp) ?_
              refine AllReadyH.cons (o := ?o1x16) ?hi1x16 (fun K hK => ?_) AllReadyH.nil
              case hi1x16 => (simp only [List.getElem?_toArray, List.getElem?_cons_succ, List.getElem?_cons_zero]; exact rfl)
              go_simp
              refine ((HLi _ (hF.step (by repeat (first | exact Ext.refl _ | assumption | refine Ext.setCell ?_ (by first | (simp; done) | (simp; omega)) _ | refine Ext.drewN ?_ _ | refine Ext.alloc ?_ _ | refine Ext.drew ?_ | refine Ext.trans ?_ (by assumption)))) _).out).mono ?_
              rintro e w7 ⟨rfl, b2, q2, qv2, hF7, hlit⟩
              refine hK.out _ _ ?_ (fun hHeld => ?_)
              · (first | assumption | exact FB.step (by assumption) (by assumption) | exact FB.step (by assumption) ((Ext.refl _).drew) | exact hF7.fb)
              clear hK K
              refine wpAnyH_done (by kernel_rfl) ?_ _
              refine NoPanic.normal ?_
              obtain ⟨hG7, hm7, hr7, hn7⟩ := (hGl b2 q2 hlit).out
              obtain ⟨hG, hB, hS, hlt, hii, hE⟩ := Hrest.out
              have hS7 : SpreadF l p wind nn b2 q2 := hS.mono hm7 hr7 (by omega)
              have hl7 : nn < q2.length := by obtain ⟨r, e⟩ := hr7; rw [e, List.length_append]; omega
              have hi7 : q2[nn]? = some ii := by obtain ⟨r, e⟩ := hr7; rw [e, List.getElem?_append_left hlt]; exact hii
              have hE7 : ∀ j', j' < j + 1 → edgeF l p wind ii j' = true → canF l p j' = true → b2 j' = true := fun j' h h1 h2 => by
                by_cases e : j' = j
                · subst e; exact hn7 (by rw [← Hed.out]; exact h1) h2
                · exact hm7 j' (hE j' (by omega) h1 h2)
              have hB7 : BegunF l p (spot ax ay) p.length b2 := fun i hi h1 h2 => hm7 i (hB i hi h1 h2)
              clear hGl Hrest hlit hG hB hS hii hE HLi HLs hFB F4 F5 d0 d1 d2 d3 d4 g0 g1 g2 g3 g4 hm7 hr7 hn7
              go_wp2_with fail
              go_roundw
              case rel => exact ⟨j + 1, b2, q2, qv2, by omega, congrArg (Value.int .i64) (by omega), hF7, hG7, hB7, hS7, hl7, hi7, hE7⟩
              case measure => simp [intOf]; omega
            · obtain rfl : m = j := by omega
              have hS7 : SpreadF l p wind (nn + 1) b q := fun t i ht hi j' hj' h1 h2 => by
                by_cases e : t = nn
                · subst e
                  rw [hii] at hi
                  cases hi
                  exact hE j' (by rw [← Hm.out]; exact hj') h1 h2
                · exact hS t i (by omega) hi j' hj' h1 h2
              have HS7 := hidA hS7
              have hlm := hG.len
              have hlm2 : nn < m := by have := Hm.out; omega
              clear hS hE hS7
              go_wp2_with fail
              go_roundw
              case rel => exact ⟨nn + 1, b, q, qv, by omega, congrArg (Value.int .i64) (by omega), hF, hG, hB, HS7.out⟩
              case measure => have := Hm.out; simp [intOf]; omega
        · have hnq : nn = q.length := by omega
          have hend := good_end hG hB (by rw [← hnq]; exact hS)
          have Hend := hidA (show ∀ i, i < m → (b i = true ↔ ReachF l p (spot ax ay) wind i) from fun i hi => hend i (by rw [Hm.out]; exact hi))
          have c1 := hF.bb.cell 0
          obtain ⟨i0, hi0, hz0, hz1, hz2⟩ := info_parts infoInt
          have hga := hF.ab
          have hxw := hF.ext
          clear hend hG hB hS hk2 hnq
          go_wp2_with fail
          clear c0 c1 hF hcq hql hlt
          go_loopw [19, 96] (fun v s wr3 => ∃ k : Nat, k ≤ m ∧ s = .int .i64 k ∧ OwnI wr3 w.heap.size v ((List.range k).filter b) ∧ Bk wr3 ga 4 (bools m b) ∧ Ext w wr3) (fun _ s _ => m - (intOf s).toNat)
          case atStart => exact ⟨0, Nat.zero_le _, rfl, OwnI.nil _ _, hga, hxw⟩
          case round =>
            clear hga hxw
            obtain ⟨k, hk, rfl, hO, hga, hxw⟩ := hrel
            by_cases hlt : k < m
            · have hfl : ((List.range k).filter b).length ≤ 4000 := by have := List.length_filter_le b (List.range k); simp at this; omega
              have cg : wr.cell? ⟨ga, k, none⟩ = some (.bool (b k)) := by rw [hga.cell]; exact bools_get b hlt
              have k0 : (0 : Int) ≤ k := by omega
              have k1 : (k : Int) < m := by omega
              have Hf := hidA (filter_succ b k)
              cases hbk : b k
              · rw [hbk] at cg Hf
                have hO2 : OwnI wr w.heap.size u19 ((List.range (k + 1)).filter b) := by rw [Hf.out]; simpa using hO
                go_wp2_with fail
                go_roundw
                case rel => exact ⟨k + 1, by omega, congrArg (Value.int .i64) (by omega), hO2, hga, hxw⟩
                case measure => simp [intOf]; omega
              · rw [hbk] at cg Hf
                have hA3 := hidA (show (wr.alloc (.cells #[.int .i64 (k : Int)] 3)).ownsRow w.heap.size 3 1 u19 ((List.range k).filter b).length (ints ((List.range k).filter b)) from hO.ext ((Ext.refl _).alloc _))
                have hN3 := hidA (show ∀ j u, [Value.int .i64 (k : Int)][j]? = some u → (wr.alloc (.cells #[.int .i64 (k : Int)] 3)).cell? ((⟨wr.heap.size, 0, none⟩ : Addr).add j) = some u from World.news_of_block (cs := #[.int .i64 (k : Int)]) (t := 3) (fr := (0, 0)) (Bk.new' rfl))
                have hone := hidA (show ∀ u ∈ [Value.int .i64 (k : Int)], u.oneCell' = true from by intro u hu; simp at hu; subst hu; rfl)
                have hs3 := hidA (show w.heap.size ≤ (wr.alloc (.cells #[.int .i64 (k : Int)] 3)).heap.size from by have := hxw.size; simp; omega)
                have Hga := hidA (hga.alloc (.cells #[.int .i64 (k : Int)] 3))
                have Hxa := hidA (hxw.alloc (.cells #[.int .i64 (k : Int)] 3))
                go_wp2_with (at_builtin; (refine wpList_append_own _ (by rfl) _ _ 67 (by rfl) w.heap.size 3 i0 (.int .i64 0) 1 8 Tryd.underlying67 hi0 hz0 hz1 hz2 rfl (by decide) u19 ((List.range k).filter b).length (ints ((List.range k).filter b)) (by rfl) hA3.out ⟨wr.heap.size, 0, none⟩ 1 1 [.int .i64 (k : Int)] (by rfl) (by rfl) hN3.out hone.out (by unfold maxLen; omega) (by omega) hs3.out ?_; intro v4 w4 hown4 hgrow4 _))
                have hga4 := Hga.out.grown hgrow4 (own_ne hA3.out Hga.out (by decide))
                have hx4 : Ext w w4 := Hxa.out.grown hgrow4 (fun q he => (hA3.out.lt q he).1)
                have hO2 : OwnI w4 w.heap.size v4 ((List.range (k + 1)).filter b) := by
                  rw [Hf.out, if_pos rfl]
                  unfold OwnI
                  rw [ints_snoc, List.length_append]
                  exact hown4
                clear hA3 hN3 hone hs3 Hga Hxa hgrow4 hown4 cg hga hxw hO
                go_wp2_with fail
                go_roundw
                case rel => exact ⟨k + 1, by omega, congrArg (Value.int .i64) (by omega), hO2, hga4, hx4⟩
                case measure => simp [intOf]; omega
            · obtain rfl : m = k := by omega
              go_wp2_with fail
              go_ret2
              exact ⟨u19, b, rfl, hO, Hend.out, hxw⟩
end Go.Proofs.YtgaonoklbihkjaaDoor
