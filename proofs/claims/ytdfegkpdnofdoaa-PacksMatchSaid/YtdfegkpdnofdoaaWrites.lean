/- Contracts: export.word, export.Sum, export.scaled; appends of bytes. -/
import Derived.Test.YtdfegkpdnofdoaaCheckP
import Derived.Test.YtdfegkpdnofdoaaWordsB
import Derived.Deep.AppendLies
import Derived.Laws.BytesString
namespace Go.Proofs.Ytdfegkpdnofdoaa
open Go.RowKit
attribute [local go_sem ↓] Go.wp_at_zero Go.wp_at_succ

theorem Try.infoU8 : (Try.prog.info? 5).map (fun i => (i.zero, i.size, i.bytes)) = some (some (.int .u8 0), 1, 1) := by kernel_rfl
def u8s (l : List Int) : List Value := l.map (.int .u8)
theorem u8s_one (l : List Int) : ∀ u ∈ u8s l, u.oneCell' = true := by
  intro u hu
  unfold u8s at hu
  rw [List.mem_map] at hu
  obtain ⟨n, _, rfl⟩ := hu
  rfl
theorem u8s_length (l : List Int) : (u8s l).length = l.length := by simp [u8s]
theorem u8s_append (l m : List Int) : u8s l ++ u8s m = u8s (l ++ m) := by simp [u8s]

theorem word_any (x : Int) (w : World) :
    Calls Try.prog 77 #[.int .u32 x] w fun e w' => ∃ l : List Int, l.length = 4 ∧ e = .returned (.slice (some ⟨w.heap.size, 0, none⟩) 4 4) ∧ w' = w.alloc (.cells (u8s l).toArray 5) := by
  go_enter Try.func77, Try.ntmps77
  go_wp2_with fail
  go_ret
  exact ⟨[_, _, _, _], rfl, rfl, rfl⟩
theorem scaled_any (n : Int) (w : World) (h : n < 4) :
    Calls Try.prog 75 #[.int .i64 n] w fun e w' => e = .returned (.bool false) ∧ w' = w := by
  have b0 : (n == 4) = false := by simp; omega
  have b1 : (n == 5) = false := by simp; omega
  go_enter Try.func75, Try.ntmps75
  go_wp2_with fail
  go_ret
  exact ⟨rfl, rfl⟩
theorem sum_any (s : ByteArray) (w : World) (hs : s.size ≤ 4194304) :
    Calls Try.prog 41 #[.string s] w fun e w' => ∃ n : Int, e = .returned (.int .i64 n) ∧ w' = w := by
  go_enter Try.func41, Try.ntmps41
  go_wp2_with fail
  go_loop [3, 4, 5] (fun a b i => ∃ (p q : Int) (k : Nat), k ≤ s.size ∧ a = .int .i64 p ∧ b = .int .i64 q ∧ i = .int .i64 k) (fun _ _ i => s.size - (intOf i).toNat)
  case atStart => exact ⟨_, _, 0, Nat.zero_le _, rfl, rfl, rfl⟩
  case round =>
    obtain ⟨p, q, k, hk, rfl, rfl, rfl⟩ := hrel
    by_cases hlt : k < s.size
    · go_wp2_with fail
      go_round
      case rel => exact ⟨_, _, k + 1, by omega, rfl, rfl, by go_num⟩
      case measure => simp [intOf]; omega
    · go_wp2_with fail
      go_ret
      exact ⟨⟨_, rfl⟩, rfl⟩

/-- string(v) -/
theorem str_size : ∀ (l : List Int) (s : ByteArray), (l.foldl (fun r n => r.push (UInt8.ofNat n.toNat)) s).size = s.size + l.length
  | [], s => by simp
  | a :: l, s => by
    rw [List.foldl_cons, str_size l]
    simp
    omega
theorem str_own {w : World} {base n : Nat} {v : Value} {l : List Int} (h : w.ownsRow base 5 1 v n (u8s l)) (hn : 0 < n) : ∃ s : ByteArray, (convert 105 9 v).run Try.prog w = .ok (.string s) w ∧ s.size = n := by
  have hl : l.length = n := by have := h.1; rw [u8s_length] at this; omega
  obtain ⟨g, cap, rfl, _, _⟩ := World.ownsRow.form h hn
  rw [run_convert_bytes_string w _ _ 5 _ _ _ Try.underlying105 Try.underlying5 Try.underlying9]
  have hc := h.cells (g := g) rfl
  have h1 := run_loadCells_list (P := Try.prog) w ⟨g, 0, none⟩ (u8s l) hc
  rw [u8s_length, hl] at h1
  rw [run_bytesToString w _ n cap l h1]
  refine ⟨_, rfl, ?_⟩
  rw [str_size, hl]
  show 0 + n = n
  omega
end Go.Proofs.Ytdfegkpdnofdoaa
