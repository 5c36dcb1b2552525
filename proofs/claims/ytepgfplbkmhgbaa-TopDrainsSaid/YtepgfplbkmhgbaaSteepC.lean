/- Contract: tarnref2.SteepOf. -/
import Derived.Test.YtepgfplbkmhgbaaSteepB
namespace Go.Proofs.Ytepgfplbkmhgbaa
open Go.RowKit
attribute [local go_sem ↓] Go.wp_at_zero Go.wp_at_succ
attribute [local go_sem] run_store_float

theorem flo_congr {N : Nat} {f g : Nat → Nat} (h : ∀ k, k < N → f k = g k) : flo N f = flo N g := by
  unfold flo
  congr 1
  exact List.map_congr_left fun k hk => by rw [h k (List.mem_range.1 hk)]
/-- what SteepOf holds in memory -/
structure SO (W0 w : World) (hr gi gf : Nat) (X Y : Int) (Wn Hn N : Nat) (I : Nat → Int) (F : Nat → Nat) : Prop where
  rb : Bk w hr 23 #[.int .i64 X, .int .i64 Y, .int .i64 (Wn : Int), .int .i64 (Hn : Int)]
  ib : Bk w gi 3 (intB N I)
  fb : Bk w gf 31 (flo N F)
  ext : Ext W0 w
  b1 : W0.heap.size ≤ gi
  b2 : W0.heap.size ≤ gf
section
variable {W0 w : World} {hr gi gf : Nat} {X Y : Int} {Wn Hn N : Nat} {I : Nat → Int} {F : Nat → Nat}
theorem SO.step (h : SO W0 w hr gi gf X Y Wn Hn N I F) {w' : World} (hx : Ext w w') : SO W0 w' hr gi gf X Y Wn Hn N I F := ⟨h.rb.ext hx, h.ib.ext hx, h.fb.ext hx, h.ext.trans hx, h.b1, h.b2⟩
theorem SO.putI (h : SO W0 w hr gi gf X Y Wn Hn N I F) (k : Nat) (x : Int) : SO W0 (w.setCell ⟨gi, k, none⟩ (.int .i64 x)) hr gi gf X Y Wn Hn N (updF I k x) F := by
  have e1 := Bk.set h.ib k (.int .i64 x)
  rw [intB_set] at e1
  exact ⟨h.rb.far (Bk.ne h.rb h.ib (by decide)) _, e1, h.fb.far (Bk.ne h.fb h.ib (by decide)) _, h.ext.setCell h.b1 _, h.b1, h.b2⟩
theorem SO.putF (h : SO W0 w hr gi gf X Y Wn Hn N I F) (k x : Nat) : SO W0 (w.setCell ⟨gf, k, none⟩ (.float .f32 x)) hr gi gf X Y Wn Hn N I (updF F k x) := by
  have e1 := Bk.set h.fb k (.float .f32 x)
  rw [flo_set] at e1
  exact ⟨h.rb.far (Bk.ne h.rb h.fb (by decide)) _, h.ib.far (Bk.ne h.ib h.fb (by decide)) _, e1, h.ext.setCell h.b2 _, h.b1, h.b2⟩
end
/-- the first k cells are right, the others hold no drop -/
def SOk (v : Nat → Nat) (Wn Hn k : Nat) (I : Nat → Int) (F : Nat → Nat) : Prop := (∀ j, j < k → I j = (stp v Wn Hn j 8).1 ∧ F j = (stp v Wn Hn j 8).2) ∧ ∀ j, k ≤ j → F j = 0
def SOd (v : Nat → Nat) (Wn Hn k d : Nat) (I : Nat → Int) (F : Nat → Nat) : Prop := (∀ j, j < k → I j = (stp v Wn Hn j 8).1 ∧ F j = (stp v Wn Hn j 8).2) ∧ (∀ j, k < j → F j = 0) ∧ I k = (stp v Wn Hn k d).1 ∧ F k = (stp v Wn Hn k d).2
theorem SOk.start (v : Nat → Nat) (Wn Hn : Nat) (I : Nat → Int) : SOk v Wn Hn 0 I (fun _ => 0) := ⟨fun j h => by omega, fun _ _ => rfl⟩
theorem SOk.enter {v : Nat → Nat} {Wn Hn k : Nat} {I : Nat → Int} {F : Nat → Nat} (h : SOk v Wn Hn k I F) : SOd v Wn Hn k 0 (updF I k (-1)) F := by
  refine ⟨fun j hj => ?_, fun j hj => h.2 j (by omega), by simp [updF, stp], ?_⟩
  · have : updF I k (-1) j = I j := by unfold updF; rw [if_neg (by omega)]
    rw [this]
    exact h.1 j hj
  · rw [h.2 k (by omega)]
    rfl
theorem SOd.leave {v : Nat → Nat} {Wn Hn k : Nat} {I : Nat → Int} {F : Nat → Nat} (h : SOd v Wn Hn k 8 I F) : SOk v Wn Hn (k + 1) I F := by
  refine ⟨fun j hj => ?_, fun j hj => h.2.1 j (by omega)⟩
  by_cases e : j = k
  · subst e
    exact h.2.2
  · exact h.1 j (by omega)
theorem SOd.none {v : Nat → Nat} {Wn Hn k d : Nat} {I : Nat → Int} {F : Nat → Nat} (h : SOd v Wn Hn k d I F) (hn : nbr Wn Hn k d = none) : SOd v Wn Hn k (d + 1) I F := by
  unfold SOd
  rw [stp_none hn]
  exact h
theorem SOd.same {v : Nat → Nat} {Wn Hn k d n : Nat} {I : Nat → Int} {F : Nat → Nat} (h : SOd v Wn Hn k d I F) (hn : nbr Wn Hn k d = some n) (hg : gt (dropF v k n d) (F k) = false) : SOd v Wn Hn k (d + 1) I F := by
  rw [h.2.2.2] at hg
  unfold SOd
  rw [stp_some hn, if_neg (by rw [hg]; decide)]
  exact h
theorem SOd.more {v : Nat → Nat} {Wn Hn k d n : Nat} {I : Nat → Int} {F : Nat → Nat} (h : SOd v Wn Hn k d I F) (hn : nbr Wn Hn k d = some n) (hg : gt (dropF v k n d) (F k) = true) : SOd v Wn Hn k (d + 1) (updF I k d) (updF F k (dropF v k n d)) := by
  rw [h.2.2.2] at hg
  unfold SOd
  rw [stp_some hn, if_pos hg]
  refine ⟨fun j hj => ?_, fun j hj => ?_, by simp [updF], by simp [updF]⟩
  · have e1 : updF I k d j = I j := by unfold updF; rw [if_neg (by omega)]
    have e2 : updF F k (dropF v k n d) j = F j := by unfold updF; rw [if_neg (by omega)]
    rw [e1, e2]
    exact h.1 j hj
  · have e2 : updF F k (dropF v k n d) j = F j := by unfold updF; rw [if_neg (by omega)]
    rw [e2]
    exact h.2.1 j hj

end Go.Proofs.Ytepgfplbkmhgbaa
