/- Printed by row.py: data handed in. -/
import Derived.Test.YtckjpkecipgeiaaSyLaw
import Derived.Test.YtckjpkecipgeiaaSyMap
import Derived.Test.YtckjpkecipgeiaaPkKd
import Derived.Test.YtckjpkecipgeiaaRows
set_option linter.unusedVariables false
set_option maxRecDepth 100000
namespace Go.Proofs.Ytckjpkecipgeiaa.Mo
open Go Go.Proofs.Ytckjpkecipgeiaa.Sy Go.ChangeShapes Go.WideShapes Go.RowKit
open Go.Proofs Go.Proofs.Ytckjpkecipgeiaa

def Bk {H : Type} (d : DataW H) : Nat := Rows.uptoBulk d
def Bl {H : Type} (d : List (DataW H)) : Nat := Rows.uptoBulkAll d
theorem Bk_one {H : Type} (d : DataW H) : 1 ≤ Bk d := by
  cases d with
  | lit l => cases l <;> simp [Bk, Rows.uptoBulk]
  | nil => simp [Bk, Rows.uptoBulk]
  | ptr d => simp [Bk, Rows.uptoBulk]
  | slice elems spare => simp [Bk, Rows.uptoBulk]
  | agg parts => simp [Bk, Rows.uptoBulk]
  | iface t d => simp [Bk, Rows.uptoBulk]
  | map entries => simp [Bk, Rows.uptoBulk]
  | held h => simp [Bk, Rows.uptoBulk]
theorem hB : Bulk @Bk @Bl where
  one := Bk_one
  str l := by simp [Bk, Rows.uptoBulk]
  slice e s := by simp only [Bk, Bl, Rows.uptoBulk]; omega
  agg l := by simp only [Bk, Bl, Rows.uptoBulk]; omega
  ptr d := by simp only [Bk, Rows.uptoBulk]; omega
  nil := rfl
  cons d l := rfl
theorem in_3 : In Try.prog Bk 3 (Kd.int .i64) (fun s => (Lit.int .i64 s).wf = true) (fun _ => 1) (fun _ => True) := in_int hB Try.underlying3 (by kernel_rfl)
theorem in_9 : In Try.prog Bk 9 Kd.str (fun s => s.size ≤ maxLen) (fun s => s.size + 1) (fun s => s.size ≤ 140737488355327) := in_str hB Try.underlying9 (by kernel_rfl)
theorem in_41 : In Try.prog Bk 41 (Kd.int .u64) (fun s => (Lit.int .u64 s).wf = true) (fun _ => 1) (fun _ => True) := in_int hB Try.underlying41 (by kernel_rfl)
def File.good (x : File) : Prop := ((Lit.int .i64 x.Number).wf = true) ∧ ((Lit.int .i64 x.Size).wf = true) ∧ (x.Least.size ≤ maxLen) ∧ (x.Limit.size ≤ maxLen) ∧ ((Lit.int .u64 x.Low).wf = true) ∧ ((Lit.int .u64 x.High).wf = true)
def File.szs (x : File) : Prop := (True) ∧ (True) ∧ (x.Least.size ≤ 140737488355327) ∧ (x.Limit.size ≤ 140737488355327) ∧ (True) ∧ (True)
def File.mz (x : File) : Nat := (1 + (1 + ((x.Least.size + 1) + ((x.Limit.size + 1) + (1 + 1))))) + 1
theorem in_43 : In Try.prog Bk 43 k_File File.good File.mz File.szs := by
  have h := in_struct hB Try.underlying43 (by kernel_rfl) (inF_cons hB in_3 rfl (inF_cons hB in_3 rfl (inF_cons hB in_9 rfl (inF_cons hB in_9 rfl (inF_cons hB in_41 rfl (inF_one hB in_41))))))
  exact h.map (fun x => ⟨x.1, x.2.1, x.2.2.1, x.2.2.2.1, x.2.2.2.2.1, x.2.2.2.2.2⟩) rfl (fun h => by obtain ⟨_, _, rfl, rfl, ⟨_, _, rfl, rfl, ⟨_, _, rfl, rfl, ⟨_, _, rfl, rfl, ⟨_, _, rfl, rfl, rfl⟩⟩⟩⟩⟩ := h; rfl) (fun a h => h) (fun a => Nat.le_refl _) (fun a h => h)
theorem bytes_43 : Try.prog.bytesOf 43 = 64 := by kernel_rfl
theorem in_31 : In Try.prog Bk 31 (Kd.slice 43 k_File) (fun l => (∀ y ∈ l, File.good y) ∧ l.length ≤ maxLen) (fun l => (l.map fun y => File.mz y).sum + 1) (fun l => l.length * 64 ≤ 140737488355327 ∧ ∀ y ∈ l, File.szs y) := by
  have h := in_slice hB Try.underlying31 (by kernel_rfl) in_43 (by decide)
  rw [bytes_43] at h
  exact h
theorem bytes_31 : Try.prog.bytesOf 31 = 24 := by kernel_rfl
theorem in_23 : In Try.prog Bk 23 (Kd.slice 31 (Kd.slice 43 k_File)) (fun l => (∀ y ∈ l, (∀ y1 ∈ y, File.good y1) ∧ y.length ≤ maxLen) ∧ l.length ≤ maxLen) (fun l => (l.map fun y => ((y.map fun y1 => File.mz y1).sum + 1)).sum + 1) (fun l => l.length * 24 ≤ 140737488355327 ∧ ∀ y ∈ l, (y.length * 64 ≤ 140737488355327 ∧ ∀ y1 ∈ y, File.szs y1)) := by
  have h := in_slice hB Try.underlying23 (by kernel_rfl) in_31 (by decide)
  rw [bytes_31] at h
  exact h
def Shape.good (x : Shape) : Prop := ((Lit.int .i64 x.Page).wf = true) ∧ ((Lit.int .i64 x.Restart).wf = true) ∧ ((Lit.int .i64 x.Bits).wf = true)
def Shape.szs (x : Shape) : Prop := (True) ∧ (True) ∧ (True)
def Shape.mz (x : Shape) : Nat := (1 + (1 + 1)) + 1
theorem in_25 : In Try.prog Bk 25 k_Shape Shape.good Shape.mz Shape.szs := by
  have h := in_struct hB Try.underlying25 (by kernel_rfl) (inF_cons hB in_3 rfl (inF_cons hB in_3 rfl (inF_one hB in_3)))
  exact h.map (fun x => ⟨x.1, x.2.1, x.2.2⟩) rfl (fun h => by obtain ⟨_, _, rfl, rfl, ⟨_, _, rfl, rfl, rfl⟩⟩ := h; rfl) (fun a h => h) (fun a => Nat.le_refl _) (fun a h => h)
theorem bytes_3 : Try.prog.bytesOf 3 = 8 := by kernel_rfl
theorem in_26 : In Try.prog Bk 26 (Kd.slice 3 (Kd.int .i64)) (fun l => (∀ y ∈ l, (Lit.int .i64 y).wf = true) ∧ l.length ≤ maxLen) (fun l => (l.map fun y => 1).sum + 1) (fun l => l.length * 8 ≤ 140737488355327 ∧ ∀ y ∈ l, True) := by
  have h := in_slice hB Try.underlying26 (by kernel_rfl) in_3 (by decide)
  rw [bytes_3] at h
  exact h
def Config.good (x : Config) : Prop := ((Lit.int .i64 x.Block).wf = true) ∧ ((Lit.int .i64 x.Mem).wf = true) ∧ ((Lit.int .i64 x.Frozen).wf = true) ∧ (Shape.good x.Shape) ∧ ((Lit.int .i64 x.Cut).wf = true) ∧ ((Lit.int .i64 x.Files0).wf = true) ∧ ((Lit.int .i64 x.Stop0).wf = true) ∧ ((Lit.int .i64 x.Base).wf = true) ∧ ((Lit.int .i64 x.Ratio).wf = true) ∧ ((Lit.int .i64 x.Levels).wf = true) ∧ ((Lit.int .i64 x.Chunk).wf = true) ∧ ((Lit.int .i64 x.Roll).wf = true) ∧ ((Lit.int .i64 x.Clients).wf = true) ∧ ((∀ y ∈ x.Heights, (Lit.int .i64 y).wf = true) ∧ x.Heights.length ≤ maxLen)
def Config.szs (x : Config) : Prop := (True) ∧ (True) ∧ (True) ∧ (Shape.szs x.Shape) ∧ (True) ∧ (True) ∧ (True) ∧ (True) ∧ (True) ∧ (True) ∧ (True) ∧ (True) ∧ (True) ∧ ((x.Heights.length * 8 ≤ 140737488355327 ∧ ∀ y ∈ x.Heights, True))
def Config.mz (x : Config) : Nat := (1 + (1 + (1 + (Shape.mz x.Shape + (1 + (1 + (1 + (1 + (1 + (1 + (1 + (1 + (1 + ((x.Heights.map fun y => 1).sum + 1)))))))))))))) + 1
theorem in_28 : In Try.prog Bk 28 k_Config Config.good Config.mz Config.szs := by
  have h := in_struct hB Try.underlying28 (by kernel_rfl) (inF_cons hB in_3 rfl (inF_cons hB in_3 rfl (inF_cons hB in_3 rfl (inF_cons hB in_25 rfl (inF_cons hB in_3 rfl (inF_cons hB in_3 rfl (inF_cons hB in_3 rfl (inF_cons hB in_3 rfl (inF_cons hB in_3 rfl (inF_cons hB in_3 rfl (inF_cons hB in_3 rfl (inF_cons hB in_3 rfl (inF_cons hB in_3 rfl (inF_one hB in_26))))))))))))))
  exact h.map (fun x => ⟨x.1, x.2.1, x.2.2.1, x.2.2.2.1, x.2.2.2.2.1, x.2.2.2.2.2.1, x.2.2.2.2.2.2.1, x.2.2.2.2.2.2.2.1, x.2.2.2.2.2.2.2.2.1, x.2.2.2.2.2.2.2.2.2.1, x.2.2.2.2.2.2.2.2.2.2.1, x.2.2.2.2.2.2.2.2.2.2.2.1, x.2.2.2.2.2.2.2.2.2.2.2.2.1, x.2.2.2.2.2.2.2.2.2.2.2.2.2⟩) rfl (fun h => h) (fun a h => h) (fun a => Nat.le_refl _) (fun a h => h)
end Go.Proofs.Ytckjpkecipgeiaa.Mo
