/- Printed by row.py: data handed in. -/
import Derived.Test.YtgmaldangihhnaaSyLaw
import Derived.Test.YtgmaldangihhnaaSyMap
import Derived.Test.YtgmaldangihhnaaMoKd
import Derived.Test.YtgmaldangihhnaaRows
set_option linter.unusedVariables false
set_option maxRecDepth 100000
namespace Go.Proofs.Ytgmaldangihhnaa.Mo
open Go Go.Proofs.Ytgmaldangihhnaa.Sy Go.ChangeShapes Go.WideShapes Go.RowKit
open Go.Proofs Go.Proofs.Ytgmaldangihhnaa

def Bk {H : Type} (d : DataW H) : Nat := Rows.uptoBulk d
def Bl {H : Type} (d : List (DataW H)) : Nat := Rows.uptoBulkAll d
theorem Bk_one {H : Type} (d : DataW H) : 1 ≤ Bk d := by
  cases d with
  | lit l => cases l <;> simp [Bk, Rows.uptoBulk]
  | nil => simp [Bk, Rows.uptoBulk]
  | ptr d => simp [Bk, Rows.uptoBulk]
  | slice elems spare => simp [Bk, Rows.uptoBulk]
  | agg parts => simp [Bk, Rows.uptoBulk]
  | iface t d => simp [Bk, Rows.uptoBulk]
  | map entries => simp [Bk, Rows.uptoBulk]
  | held h => simp [Bk, Rows.uptoBulk]
theorem hB : Bulk @Bk @Bl where
  one := Bk_one
  str l := by simp [Bk, Rows.uptoBulk]
  slice e s := by simp only [Bk, Bl, Rows.uptoBulk]; omega
  agg l := by simp only [Bk, Bl, Rows.uptoBulk]; omega
  ptr d := by simp only [Bk, Rows.uptoBulk]; omega
  nil := rfl
  cons d l := rfl
theorem in_9 : In Try.prog Bk 9 Kd.str (fun s => s.size ≤ maxLen) (fun s => s.size + 1) (fun s => s.size ≤ 140737488355327) := in_str hB Try.underlying9 (by kernel_rfl)
def model_Pair.good (x : model_Pair) : Prop := (x.Key.size ≤ maxLen) ∧ (x.Value.size ≤ maxLen)
def model_Pair.szs (x : model_Pair) : Prop := (x.Key.size ≤ 140737488355327) ∧ (x.Value.size ≤ 140737488355327)
def model_Pair.mz (x : model_Pair) : Nat := ((x.Key.size + 1) + (x.Value.size + 1)) + 1
theorem in_37 : In Try.prog Bk 37 k_model_Pair model_Pair.good model_Pair.mz model_Pair.szs := by
  have h := in_struct hB Try.underlying37 (by kernel_rfl) (inF_cons hB in_9 rfl (inF_one hB in_9))
  exact h.map (fun x => ⟨x.1, x.2⟩) rfl (fun h => by obtain ⟨_, _, rfl, rfl, rfl⟩ := h; rfl) (fun a h => h) (fun a => Nat.le_refl _) (fun a h => h)
theorem bytes_37 : Try.prog.bytesOf 37 = 32 := by kernel_rfl
theorem in_22 : In Try.prog Bk 22 (Kd.slice 37 k_model_Pair) (fun l => (∀ y ∈ l, model_Pair.good y) ∧ l.length ≤ maxLen) (fun l => (l.map fun y => model_Pair.mz y).sum + 1) (fun l => l.length * 32 ≤ 140737488355327 ∧ ∀ y ∈ l, model_Pair.szs y) := by
  have h := in_slice hB Try.underlying22 (by kernel_rfl) in_37 (by decide)
  rw [bytes_37] at h
  exact h
theorem in_3 : In Try.prog Bk 3 (Kd.int .i64) (fun s => (Lit.int .i64 s).wf = true) (fun _ => 1) (fun _ => True) := in_int hB Try.underlying3 (by kernel_rfl)
def Op.good (x : Op) : Prop := ((Lit.int .i64 x.Kind).wf = true) ∧ (x.Key.size ≤ maxLen) ∧ (x.Value.size ≤ maxLen)
def Op.szs (x : Op) : Prop := (True) ∧ (x.Key.size ≤ 140737488355327) ∧ (x.Value.size ≤ 140737488355327)
def Op.mz (x : Op) : Nat := (1 + ((x.Key.size + 1) + (x.Value.size + 1))) + 1
theorem in_32 : In Try.prog Bk 32 k_Op Op.good Op.mz Op.szs := by
  have h := in_struct hB Try.underlying32 (by kernel_rfl) (inF_cons hB in_3 rfl (inF_cons hB in_9 rfl (inF_one hB in_9)))
  exact h.map (fun x => ⟨x.1, x.2.1, x.2.2⟩) rfl (fun h => by obtain ⟨_, _, rfl, rfl, ⟨_, _, rfl, rfl, rfl⟩⟩ := h; rfl) (fun a h => h) (fun a => Nat.le_refl _) (fun a h => h)
theorem bytes_32 : Try.prog.bytesOf 32 = 40 := by kernel_rfl
theorem in_23 : In Try.prog Bk 23 (Kd.slice 32 k_Op) (fun l => (∀ y ∈ l, Op.good y) ∧ l.length ≤ maxLen) (fun l => (l.map fun y => Op.mz y).sum + 1) (fun l => l.length * 40 ≤ 140737488355327 ∧ ∀ y ∈ l, Op.szs y) := by
  have h := in_slice hB Try.underlying23 (by kernel_rfl) in_32 (by decide)
  rw [bytes_32] at h
  exact h
theorem in_208 : In Try.prog Bk 23 Kd.slv (fun _ => True) (fun _ => 1) (fun _ => True) := in_slv hB in_23
theorem in_4 : In Try.prog Bk 4 Kd.bool (fun _ => True) (fun _ => 1) (fun _ => True) := in_bool hB Try.underlying4 (by kernel_rfl)
def Ask.good (x : Ask) : Prop := ((Lit.int .i64 x.Kind).wf = true) ∧ ((Lit.int .i64 x.Handle).wf = true) ∧ (x.Key.size ≤ maxLen) ∧ (x.To.size ≤ maxLen) ∧ (True) ∧ (True)
def Ask.szs (x : Ask) : Prop := (True) ∧ (True) ∧ (x.Key.size ≤ 140737488355327) ∧ (x.To.size ≤ 140737488355327) ∧ (True) ∧ (True)
def Ask.mz (x : Ask) : Nat := (1 + (1 + ((x.Key.size + 1) + ((x.To.size + 1) + (1 + 1))))) + 1
theorem in_50 : In Try.prog Bk 50 k_Ask Ask.good Ask.mz Ask.szs := by
  have h := in_struct hB Try.underlying50 (by kernel_rfl) (inF_cons hB in_3 rfl (inF_cons hB in_3 rfl (inF_cons hB in_9 rfl (inF_cons hB in_9 rfl (inF_cons hB in_208 rfl (inF_one hB in_4))))))
  exact h.map (fun x => ⟨x.1, x.2.1, x.2.2.1, x.2.2.2.1, x.2.2.2.2.1, x.2.2.2.2.2⟩) rfl (fun h => by obtain ⟨_, _, rfl, rfl, ⟨_, _, rfl, rfl, ⟨_, _, rfl, rfl, ⟨_, _, rfl, rfl, ⟨_, _, rfl, rfl, rfl⟩⟩⟩⟩⟩ := h; rfl) (fun a h => h) (fun a => Nat.le_refl _) (fun a h => h)
theorem bytes_50 : Try.prog.bytesOf 50 = 80 := by kernel_rfl
theorem in_39 : In Try.prog Bk 39 (Kd.slice 50 k_Ask) (fun l => (∀ y ∈ l, Ask.good y) ∧ l.length ≤ maxLen) (fun l => (l.map fun y => Ask.mz y).sum + 1) (fun l => l.length * 80 ≤ 140737488355327 ∧ ∀ y ∈ l, Ask.szs y) := by
  have h := in_slice hB Try.underlying39 (by kernel_rfl) in_50 (by decide)
  rw [bytes_50] at h
  exact h
def L26_Look.good (x : L26_Look) : Prop := (x.Least.size ≤ maxLen) ∧ (x.Limit.size ≤ maxLen) ∧ ((∀ y ∈ x.Asks, Ask.good y) ∧ x.Asks.length ≤ maxLen)
def L26_Look.szs (x : L26_Look) : Prop := (x.Least.size ≤ 140737488355327) ∧ (x.Limit.size ≤ 140737488355327) ∧ ((x.Asks.length * 80 ≤ 140737488355327 ∧ ∀ y ∈ x.Asks, Ask.szs y))
def L26_Look.mz (x : L26_Look) : Nat := ((x.Least.size + 1) + ((x.Limit.size + 1) + ((x.Asks.map fun y => Ask.mz y).sum + 1))) + 1
theorem in_41 : In Try.prog Bk 41 k_L26_Look L26_Look.good L26_Look.mz L26_Look.szs := by
  have h := in_struct hB Try.underlying41 (by kernel_rfl) (inF_cons hB in_9 rfl (inF_cons hB in_9 rfl (inF_one hB in_39)))
  exact h.map (fun x => ⟨x.1, x.2.1, x.2.2⟩) rfl (fun h => h) (fun a h => h) (fun a => Nat.le_refl _) (fun a h => h)
end Go.Proofs.Ytgmaldangihhnaa.Mo
