/-
  Whether a text is somebody's name: the test answers by the text alone.
-/
import Derived.Test.YtknfcfeldncbiaaGreatDoorDxSeq
import Derived.Test.YtknfcfeldncbiaaGreatDoorProg
import Derived.KernelRfl
import Derived.WalkKit
import Derived.Handy
import Derived.LoopTactic
import Derived.Laws.IdiomStrings
namespace Go.Proofs
open Go Go.RowKit Go.Dx

theorem bytes_loop_len (bs : ByteArray) : ∀ (n i : Nat) (r : List UInt8), bs.size - i = n → (ByteArray.toList.loop bs i r).length = r.length + n := by
  intro n
  induction n with
  | zero => intro i r h; unfold ByteArray.toList.loop; rw [if_neg (by omega)]; simp
  | succ n ih => intro i r h; unfold ByteArray.toList.loop; rw [if_pos (by omega), ih (i + 1) _ (by omega)]; simp; omega

theorem bytes_toList_len (bs : ByteArray) : bs.toList.length = bs.size := by
  have := bytes_loop_len bs bs.size 0 [] (by omega)
  simpa [ByteArray.toList] using this

set_option maxRecDepth 100000 in
set_option maxHeartbeats 4000000 in
theorem Tz.name17 (s : ByteArray) (hs : (s.size : Int) ≤ 9223372036854775807) (w : World) : Calls Tryz.prog 17 #[.string s] w fun e w' => e = .returned (.bool (nameB s)) ∧ Below w.heap.size w w' := by
  have hconv := run_bytes_of_string (P := Tryz.prog) w 9 95 5 s Tryz.underlying9 Tryz.underlying95 Tryz.underlying5
  obtain ⟨cap, hcap⟩ : ∃ cap, cap = grownCap w s.size 0 5 := ⟨_, rfl⟩
  rw [← hcap] at hconv
  obtain ⟨W1, hW1⟩ : ∃ W1, W1 = (w.drew.alloc (.cells (bytesRow s cap) 5 ((bytesRow s cap).size, (bytesRow s cap).size + 1))) := ⟨_, rfl⟩
  rw [← hW1] at hconv
  have hB : Below w.heap.size w W1 := by rw [hW1]; exact ((Below.refl _ w).drew).alloc (Nat.le_refl _) _
  have hcell : ∀ (j : Nat) (hj : j < s.data.toList.length), W1.cell? ⟨w.heap.size, j, none⟩ = some (.int .u8 (((s.data.toList[j]'hj).toNat : Nat) : Int)) := by
    intro j hj
    have hb : W1.heap[w.heap.size]? = some (.cells (bytesRow s cap) 5 ((bytesRow s cap).size, (bytesRow s cap).size + 1)) := by
      rw [hW1]; exact Go.Dx.heap_alloc_new (w := w.drew) _
    unfold World.cell?
    simp only [hb]
    have hj' : j < s.data.size := by simpa using hj
    have hj2 : j < s.size := hj'
    simp [bytesRow, Array.getElem?_append, hj', hj2]
  clear hW1 hcap
  have hlen : s.data.toList.length = s.size := by simp
  obtain ⟨l, hl⟩ : ∃ l, l = s.data.toList := ⟨_, rfl⟩
  rw [← hl] at hcell hlen
  go_enter Tryz.func17, Tryz.ntmps17
  go_wp2
  go_loopw [8] (fun v wr => ∃ k : Nat, k ≤ l.length ∧ v = .int .i64 k ∧ (∀ j (hj : j < l.length), j < k → nameC (l[j]'hj).toNat = true) ∧ wr = W1) (fun v _ => l.length - (intOf v).toNat)
  case atStart => exact ⟨0, by omega, rfl, fun j _ h => by omega, rfl⟩
  case round =>
    obtain ⟨k, hk, rfl, hall, rfl⟩ := hrel
    by_cases hlt : k < l.length
    · have hc := hcell k hlt
      obtain ⟨c, hcc⟩ : ∃ c, c = (l[k]'hlt).toNat := ⟨_, rfl⟩
      rw [← hcc] at hc
      have hc256 : c < 256 := by rw [hcc]; exact (l[k]'hlt).toNat_lt
      have hcn : nameC (l[k]'hlt).toNat = nameC c := by rw [hcc]
      have hbad : nameC c = false → nameB s = false := fun h => by
        unfold nameB
        rw [← hl]
        have : (l.all fun c => nameC c.toNat) = false := by
          rw [← Bool.not_eq_true, List.all_eq_true]
          intro hh
          have := hh _ (List.getElem_mem hlt)
          rw [hcn, h] at this; cases this
        rw [this]; rfl
      clear hcc hcell hl
      go_wp2
      all_goals first
        | (go_ret
           have hf : nameC c = false := by
             cases hnc : nameC c with
             | false => rfl
             | true => exfalso; simp [nameC] at hnc; omega
           refine ⟨?_, hB⟩
           rw [hbad hf]; rfl)
        | (refine ⟨⟨k + 1, by omega, by simp, fun j hj hjk => ?_, trivial⟩, by simp [intOf]; omega⟩
           have ht : nameC c = true := by
             cases hnc : nameC c with
             | true => rfl
             | false => exfalso; simp [nameC] at hnc; first | omega | (rename_i hz; simp only [bne_eq_false_iff_eq] at hz; omega)
           by_cases hj2 : j < k
           · exact hall j hj hj2
           · obtain rfl : j = k := by omega
             rw [hcn]; exact ht)
    · obtain rfl : k = l.length := by omega
      have hgood : (s.data.toList.all fun c => nameC c.toNat) = true := by
        rw [← hl, List.all_eq_true]
        intro x hx
        obtain ⟨j, hj, rfl⟩ := List.getElem_of_mem hx
        exact hall j hj hj
      have hnb : nameB s = (decide (0 < s.size) && decide (s.size ≤ 24)) := by unfold nameB; rw [hgood]; rfl
      clear hall hcell hgood hl
      go_wp2
      · rename_i hz
        have h0 : s.size = 0 := by rw [← bytes_toList_len, hz]; rfl
        go_ret
        refine ⟨?_, hB⟩
        rw [hnb, h0]; rfl
      · rename_i hz
        have h0 : 0 < s.size := by
          rw [← bytes_toList_len]
          exact List.length_pos_iff.2 hz
        go_ret
        refine ⟨?_, hB⟩
        rw [hnb]
        have hE : s.toList.isEmpty = false := by cases hq : s.toList with | nil => exact absurd hq hz | cons a b => rfl
        have hI : decide ((s.size : Int) ≤ 24) = decide (s.size ≤ 24) := by simp; omega
        simp [h0, hE]
        omega
end Go.Proofs
