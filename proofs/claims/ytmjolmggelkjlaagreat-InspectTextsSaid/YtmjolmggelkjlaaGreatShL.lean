/- Layer 47 and those below it: what the third form makes of the functions. -/
import Derived.Test.YtmjolmggelkjlaaGreatRows
import Derived.Test.YtmjolmggelkjlaaGreatEvRx
namespace Go.Proofs.YtmjolmggelkjlaaGreat
set_option linter.unusedVariables false
set_option linter.unusedSimpArgs false
open Go.RowKit Ev
def gtL : List Hint := [([], [], []), ([], [], []), ([], [], []), ([0, 1, 4, 5, 6, 7, 8, 9, 20, 30, 55, 56, 57, 58, 59, 69], [4], [(0, [])]), ([0, 2, 3, 4, 5, 7, 8, 9,
  10, 13, 20, 21, 22, 23, 51, 53], [2], [(0, [3, 4, 5])]), ([0, 2, 3, 4, 6, 9, 14, 15, 16, 17, 27, 31, 54, 76], [2], [(0, [0, 3, 4])]), ([0, 1, 2, 3, 6, 7, 8, 9, 10, 11,
  12, 14, 34, 54, 55, 56, 57, 69, 73, 78, 83, 85], [6], [(0, [1, 2, 3, 7, 8, 9, 10, 11])]), ([0, 1, 2, 3, 6, 7, 8, 9, 10, 11, 29], [6], []), ([0, 1, 2, 3, 6, 7, 8, 9,
  10, 11, 12, 14, 15, 16, 34, 57, 67, 68, 69, 70, 71, 72, 95, 144], [6], [(0, [1, 3, 7, 9, 11]), (2, [0, 1, 2, 3, 6, 7, 8, 9, 10, 11, 12, 34, 57, 67])]), ([0, 1, 2, 3,
  6, 7, 8, 9, 10, 11, 12, 13, 24, 29, 30, 31, 55, 56, 86, 109], [6], [(0, [0, 1, 2, 3, 6, 7, 8, 24, 29, 30, 31]), (2, [3, 7, 10, 11, 12, 13])]), ([0, 1, 2, 3, 6, 7, 8,
  9, 10, 11, 12, 13, 14, 30, 35, 36, 37], [6], [(0, [3, 7, 8])]), ([0, 1, 2, 3, 6, 7, 8, 9, 10, 11, 12, 14, 15, 16, 34, 55, 63, 64, 65, 66, 67, 68, 83, 139, 142], [6],
  [(0, [1, 3, 7, 9, 11]), (2, [0, 1, 2, 3, 6, 7, 8, 9, 10, 11, 12, 34, 55, 63])]), ([0, 1, 2, 3, 4, 5], [0], []), ([0, 1, 4, 5, 6, 7, 8, 9, 10, 17, 30], [4, 5], []),
  ([0, 2], [2], []), ([0, 1, 4, 5, 6, 7, 8, 9, 13, 14, 15, 20, 61], [4], [(0, [6])]), ([0, 1, 4], [4], []), ([0, 1, 2], [2], []), ([0, 2, 3, 4, 6, 7, 8, 9, 10, 11, 12,
  21], [2, 3], [(0, [4])]), ([0, 1, 2, 3, 17, 19, 20, 30, 48], [2, 3], []), ([0, 1, 2, 4, 17, 18, 19, 20, 24, 28, 39, 58], [2], [(0, [1])]), ([0, 2, 3, 5, 6, 7, 8, 9,
  13, 14, 32, 55], [2], [(0, [0, 2, 3])]), ([0, 2], [2], []), ([0, 2], [2], []), ([0, 1, 2, 6, 7, 8, 10, 18, 19, 20, 21], [6], [(0, [7, 8])]), ([0, 2, 3, 5, 6, 7, 8, 9],
  [2], [(0, [3])]), ([0, 1, 4, 5, 6, 7, 8, 9, 10, 15, 16, 17, 23, 45, 64], [4], [(0, [4])]), ([0, 1, 2], [2], []), ([0, 1, 2, 3, 4, 5, 6], [0], []), ([0, 1, 2, 6, 7, 8,
  9, 22], [6, 7], []), ([0, 1, 2, 4, 5, 6, 9], [4], [(0, [2, 4])]), ([0, 2], [2], []), ([0, 2, 4], [2], []), ([0, 1, 2, 6], [6], []), ([0, 1, 2, 3, 5, 6, 7, 8, 9, 10,
  11, 13, 50, 57], [6], []), ([0, 2, 3, 5, 27], [2], []), ([0, 2, 4], [2], []), ([0, 2, 3, 12], [2], []), ([0, 2, 4], [2], []), ([0, 1, 4, 5, 13, 18, 23, 27], [4], [(0,
  [0, 5])]), ([0, 1, 4, 5, 19, 42], [4], []), ([0, 1, 2, 3, 6, 7, 42, 55], [6], []), ([0, 1, 2], [2], []), ([0, 1, 2, 3, 4, 5, 6], [0], []), ([0, 1, 4, 5, 6, 7, 15], [4,
  5], []), ([0, 1, 4, 6], [4], []), ([0, 2, 4], [2], []), ([0, 1, 4, 5, 7, 15, 41], [4], [(0, [0, 5])]), ([0, 2], [2], []), ([0, 2, 4], [2], []), ([0, 2, 4], [2], []),
  ([0, 2, 4], [2], []), ([0, 2, 3, 5, 13], [2], [(0, [3])]), ([0, 1, 4], [4], []), ([0, 1, 2, 3, 5, 6, 7, 8, 9, 10, 11, 12, 13, 15, 52, 80, 93, 97], [6], []), ([0, 2,
  4], [2], []), ([0, 1, 2, 4, 5, 6, 9], [4], [(0, [2, 4])]), ([0, 2, 4], [2], []), ([0, 2, 3, 5, 12], [2, 3], []), ([0, 2], [2], []), ([0, 2, 3, 4, 5, 6, 19, 34, 37, 41,
  49], [2, 3], []), ([0, 2, 3, 4, 8], [2], [(0, [3])]), ([0, 2], [2], []), ([0, 2, 3, 4, 8], [2], [(0, [3])]), ([0, 1, 2, 6, 7, 8, 9, 10, 11, 12, 13, 15, 16, 17, 22, 49,
  61, 71, 80], [6], [(0, [7])]), ([], [], []), ([], [], []), ([0, 1, 4, 6, 7, 8, 9, 10], [4], [(0, [0])]), ([], [], []), ([0, 1, 4, 6, 7, 8, 9, 10], [4], [(0, [0])]),
  ([0, 2, 3, 4, 5], [2], [(0, [3])]), ([0, 1, 4], [4], []), ([0, 2], [2], []), ([0, 1, 4, 5, 6, 8, 9, 12, 13, 14, 15, 27, 39, 40, 41, 55], [4], [(0, [5, 6]), (2, [0, 1,
  4, 5, 6, 12, 13, 14])]), ([0, 1, 4, 5], [4], []), ([0, 1, 2], [2], []), ([0, 2], [2], []), ([0, 2], [2], []), ([0, 1, 4, 5, 9], [4], []), ([0, 2, 3, 4, 5, 7, 8, 15,
  35, 47], [2], [(0, [])]), ([0, 1, 4, 5, 6, 7, 8, 9, 10, 11, 15, 16, 17, 23, 36, 41, 51, 59, 68, 72, 83], [4], [(0, [4])]), ([0, 1, 2, 6], [6], []), ([0, 2, 10], [2],
  []), ([0, 1, 4, 5, 6, 12], [4], []), ([0, 1, 4], [4], []), ([0, 2, 4], [2], []), ([0, 2, 4], [2], []), ([0, 2, 4], [2], []), ([0, 2, 3, 21, 27], [], []), ([0, 2, 3, 4,
  23, 43, 56, 61, 67], [2], []), ([0, 1, 4, 6], [4], []), ([0, 1, 4], [4], []), ([0, 1, 4, 5, 6, 12], [4], []), ([0, 2], [2], []), ([0], [], []), ([0, 23], [], []), ([0,
  1, 4, 5, 19], [4, 5], []), ([0, 2], [2], []), ([0, 2, 4], [2], []), ([0, 1, 4, 5, 6, 7, 8, 15, 32], [4, 5], []), ([0, 2, 3, 4, 5, 17], [2], []), ([0], [], []), ([0, 2,
  3, 39], [], []), ([0, 1, 4, 5, 6, 7, 8], [4], [(0, [5])]), ([0, 1, 4, 5, 6, 7, 8, 9, 11, 13, 16, 20, 27, 52, 56, 82], [4], []), ([0, 1, 2, 3, 4, 5, 8, 19, 30, 35], [2,
  3], []), ([], [], []), ([0, 2, 4], [2], []), ([0, 2, 3, 4, 7], [2], [(0, [3])]), ([0, 1, 2, 3, 4, 6, 7, 8, 11, 21], [2], [(0, [1, 3])]), ([0, 2], [2], []), ([0, 1, 2,
  3, 4, 6], [2], []), ([0, 2, 3, 4, 8], [2], [(0, [3])]), ([0, 2, 3, 6], [2], [(0, [3])]), ([0, 2, 6], [2], [(0, [0])]), ([0, 2, 3, 6], [2], []), ([0, 2, 3, 4, 5, 6, 18,
  30], [2, 3], []), ([0, 1], [], []), ([0, 2], [2], []), ([0, 2, 3, 5], [2], []), ([0, 1, 2, 3], [2], []), ([0, 2, 4], [2], []), ([0, 2], [2], []), ([0, 1, 4, 5, 9, 10,
  15, 20], [4, 5], []), ([0, 1, 2, 3, 4, 5, 6, 16, 23, 26], [2, 3], []), ([0, 1, 2, 4], [], []), ([0, 2, 4], [2], []), ([0, 1, 4], [4], []), ([0, 2, 3, 4, 5, 6, 9, 11,
  12, 17, 22, 24, 25, 32, 47], [2], [(0, [2, 3, 4]), (2, [0, 2, 3, 4, 9, 11])]), ([0, 1, 2, 6, 7, 8, 9, 10, 11, 12, 17, 31, 46, 65, 70, 86], [6], []), ([0, 1, 2, 6, 7,
  9, 10, 14, 15, 16, 17, 25], [6], [(0, [])]), ([0, 1, 4, 5, 6, 7, 8, 9, 10, 15, 26, 38, 56, 72], [4], [(0, [8])]), ([0, 1, 2, 6, 7, 8, 9, 11, 12, 26, 30, 31, 32, 33,
  41, 44, 48, 49, 50, 57, 68], [6, 7], [(0, [8, 9]), (2, [0, 1, 2, 6, 7, 8, 9, 12, 26, 30, 31, 32])]), ([0, 1, 4, 5, 6, 7, 9, 12, 14, 15, 16, 17, 27], [4, 5], [(0,
  [6])]), ([0, 2, 3, 4, 7, 10, 19, 22, 26, 27, 28], [2, 3], [(0, [4]), (2, [0, 2, 3, 4])]), ([0, 1, 4, 5, 6, 7, 12, 13, 14], [4], [(0, [6])]), ([], [], []), ([0, 2, 3,
  19], [2], [(0, [3])]), ([0, 1, 4, 5, 6, 7, 8, 10, 11, 12, 13, 30], [4], [(0, [4, 5])]), ([0, 2, 3, 4, 5, 6, 8, 10, 11, 12, 14, 15, 16, 17, 27, 38], [2], [(0, [3]), (2,
  [0, 2, 4, 5, 6, 10, 11])]), ([0, 2, 3, 4, 5, 6, 10], [2], [(0, [3])]), ([0, 1, 4, 5, 6, 7, 8, 9, 12, 17, 26], [4, 5], [(0, [6])]), ([0, 1, 4, 5, 6, 7, 9, 15, 16, 17,
  18, 19, 28, 30], [4, 5], [(0, [1, 6, 7])]), ([0, 2, 3, 4, 5, 6, 7, 8, 9, 10, 12, 13, 20, 26], [2], [(0, [3, 4]), (2, [0, 2, 3, 4, 6, 7, 9])]), ([0, 1, 4, 5, 6, 7, 9,
  10, 11, 22, 23, 24, 25, 38, 39, 40, 41], [4], [(0, [0, 1, 4, 5, 6, 7, 22, 23, 24, 25]), (2, [6])]), ([0, 1, 4], [4], []), ([0, 2, 4], [2], []), ([0, 1, 4, 5, 7, 24],
  [4], [(0, [0, 5])]), ([0, 2, 3, 5], [2], []), ([0, 1, 4, 5, 6, 12, 15, 19, 35], [4, 5], []), ([0, 1, 4, 6, 7, 8], [], [(0, [])]), ([0, 2, 3, 10, 17], [2], []), ([0, 1,
  4, 5, 6, 9, 13], [4, 5], []), ([0], [0], []), ([0], [0], []), ([0, 1, 4, 5, 6, 12, 16, 29, 37], [4], []), ([0, 1, 4, 5, 7, 9, 10, 13, 29, 30, 53], [4], []), ([0, 1, 4,
  5, 6, 22], [4, 5], []), ([0, 1, 4, 5, 6, 7, 13, 17], [4, 5], []), ([0, 1, 4, 5, 6, 7, 15], [4, 5], []), ([0, 2, 3, 4, 5, 10], [2, 3], []), ([0, 2, 3], [2], []), ([0,
  2, 3, 4, 5, 6, 7, 8, 11, 30, 35, 42, 52], [2], [(0, [2, 3, 6, 7])]), ([0, 1, 2, 6, 7, 8, 10, 11, 12, 21, 36], [6], [(0, [6, 7])]), ([0, 1, 4, 5, 6, 7, 8, 9, 10, 16],
  [4], [(0, [])]), ([0, 1, 2, 4, 5, 6, 7, 9, 20, 25, 40, 58, 71], [4], []), ([0, 2], [2], []), ([0, 1, 4], [4], []), ([0, 2], [2], []), ([0, 2, 3, 4, 5, 6, 7, 10, 11,
  12, 19], [2], [(0, [3]), (2, [0, 2, 3, 6])]), ([0, 1, 4], [4], []), ([0, 1, 2, 6, 7, 8], [6], []), ([0, 1, 4, 5, 9, 17], [4], [(0, [])]), ([0, 1, 4, 5, 9, 16], [4],
  [(0, [])]), ([0, 2, 3, 5, 8], [2], []), ([0, 1, 4, 5, 6, 7, 9, 10, 11, 12, 13, 14, 24, 25, 26, 27, 28, 29, 42, 43, 44, 46, 47, 48, 49, 58], [4], [(0, [4, 5]), (2, [0,
  1, 4, 5, 6, 7, 24, 25, 26, 27, 28, 29]), (4, [0, 1, 4, 5, 6, 7, 10, 24]), (6, [0, 1, 4, 5, 6, 7, 10, 12, 24, 25, 26, 27, 28, 29, 42, 43])]), ([0, 1, 4, 5, 6, 8, 9, 18,
  19, 20, 21], [4], [(0, [5])]), ([0, 2, 3, 4, 6, 7, 16, 17, 18, 19, 22, 23, 29, 36], [2], [(0, [3]), (2, [0, 2, 3, 6, 16, 17, 18])]), ([0, 2, 3, 4, 5, 6, 7, 12, 15, 16,
  17, 18, 24, 26, 27, 28, 29], [2], [(0, [3]), (2, [0, 2, 3, 4, 5]), (4, [0, 2, 3, 4, 5, 6, 12, 15, 16, 17])]), ([0, 2, 3, 4, 6], [2], [(0, [0])]), ([0, 2, 4], [2], []),
  ([0, 2, 3, 4, 21, 53, 73, 76], [], []), ([0, 2], [2], []), ([], [], []), ([0, 1, 5], [], []), ([0, 2, 3, 6], [2], []), ([0, 2, 4], [2], []), ([0, 1, 2, 3, 4, 5, 6, 11,
  12], [0], [(0, [0, 1]), (2, [0, 1, 2, 3, 5])]), ([0, 1, 4, 5, 6, 7, 10, 17, 22, 23, 24], [4, 5], [(1, [6])]), ([0, 2, 3, 9], [2, 3], []), ([0, 1, 4, 5, 6, 19, 33],
  [4], []), ([0, 2], [2], []), ([0, 2, 5], [2], []), ([0, 11], [], [(0, [])]), ([0, 1, 4, 5, 6, 8, 9, 10, 12, 18, 29, 51], [4], [(0, [5])]), ([0, 1, 2, 5, 6, 7], [],
  [(0, [])]), ([0, 2, 3, 13], [2], [(0, [3])]), ([0, 1, 4, 5, 6, 7, 10, 21, 26, 30, 35, 46, 52, 62], [4], [(0, [4, 6, 7])]), ([0, 2], [2], []), ([0, 1, 4], [4], []),
  ([0, 1, 2], [2], []), ([0, 2, 3, 4, 6, 7, 8, 9, 10, 14], [2], [(0, [3])]), ([0, 1, 4, 5, 6, 7, 8, 9, 11, 14, 15, 16, 18, 19, 20, 21, 27, 36], [4], [(0, [6]), (2, [0,
  1, 4, 5, 6, 8, 14, 15])]), ([0, 1, 4, 5, 6, 7, 8, 9], [4], [(0, [5])]), ([0, 2, 3, 4, 5, 6, 7, 8, 9, 10, 27], [2], [(0, [3])]), ([0, 1, 4, 5, 6, 7, 8, 9, 10, 11, 24],
  [4], [(0, [5])]), ([0, 2, 3, 5, 6, 7, 8, 9, 10, 14, 20, 21, 25], [2], [(0, [0, 2, 3, 7, 8, 9, 10]), (2, [])]), ([0, 1, 4, 5, 6, 7, 8, 13, 22, 34], [4], [(0, [0, 1, 4,
  5, 6, 7, 13]), (2, [5])]), ([0, 2, 4], [2], []), ([0, 2, 3, 4, 8, 9, 10], [], [(0, [])]), ([], [], []), ([], [], []), ([], [], []), ([], [], []), ([0, 1, 2, 6], [6],
  []), ([0, 1, 4, 5], [4], []), ([0, 1, 4, 5, 9, 18, 27, 48], [4], []), ([0, 1, 2, 6, 8, 9, 10, 11, 12, 22], [6], [(0, [])]), ([0, 2, 3, 5, 6, 7, 8, 9, 10, 14, 15, 16],
  [2], [(0, [3]), (2, [0, 2, 3, 6, 7, 8, 9])]), ([0, 2, 4, 6, 8, 10], [2], []), ([0, 1, 4, 5, 7, 8, 9, 10, 11, 16], [4], [(0, [5])]), ([0, 1, 4, 5, 6, 7, 8, 9, 10, 11,
  17, 18, 19], [4], [(0, [5]), (2, [0, 1, 4, 5, 8, 9, 10])]), ([0, 2, 3, 4, 5, 6, 7, 8, 9, 10, 11, 12, 13, 15, 18, 19, 20, 21, 39, 66, 67, 68, 69], [2], [(0, [0, 2, 3,
  4, 18, 19, 20, 21]), (2, [7]), (4, [0, 2, 3, 4, 7, 8, 10, 12, 13, 18, 19, 20, 21])]), ([0, 2, 3, 5, 6, 7, 8, 9, 13], [2], [(0, [3])]), ([], [], []), ([], [], []), ([],
  [], []), ([], [], []), ([0, 1, 4, 5, 7, 9, 13, 42], [4], []), ([0, 1, 4, 5, 6, 13], [4], []), ([0, 2], [2], []), ([0, 2, 3, 4, 10], [2], []), ([0, 1, 4, 5, 6, 24],
  [4], []), ([0, 2, 3, 27], [2], []), ([0, 2, 4], [2], []), ([0, 2, 3, 4, 5, 6, 7, 8, 9, 18], [2], [(0, [3])]), ([0, 1, 4, 5, 6, 7, 8, 9, 10, 11, 17], [4], [(0, [5])]),
  ([], [], []), ([0, 2, 3, 4, 5, 6, 15], [2, 3], []), ([0, 1, 4, 5, 7, 9], [4], []), ([0, 1, 4, 5, 6, 9], [4, 5], []), ([0, 1, 4, 5, 6, 7, 8, 9, 22, 34, 43, 64, 68], [4,
  5], []), ([0, 1, 4, 5, 6, 7, 19], [4], []), ([0, 2], [2], []), ([0, 1, 2, 3, 4], [4], []), ([0, 2, 3, 4, 5, 6, 8, 9, 10, 12, 13, 20, 23, 24, 25, 26, 35, 38, 39, 40,
  41, 54], [2, 3], [(0, [6]), (2, [0, 2, 3, 4, 5, 6, 20, 23, 24, 25])]), ([0, 1, 4, 5, 8], [4], []), ([0, 2, 3, 4, 5, 12], [2, 3], []), ([0, 1, 4, 5, 16], [4, 5], []),
  ([0, 2, 3, 6], [2, 3], []), ([0, 1, 4, 5], [4], []), ([0, 1, 4, 5, 6, 7, 8, 20, 40], [4, 5], []), ([0, 2], [2], []), ([0, 1, 4, 5, 6, 17], [4, 5], []), ([0, 2, 4],
  [2], []), ([0, 1, 4, 5, 6, 7, 8, 9, 26, 38], [4, 5], []), ([0, 1, 4, 5, 6, 7, 8, 17, 29, 36, 46, 56], [4, 5, 6], []), ([0, 2, 3, 4, 5, 6, 13], [2], [(0, [3])]), ([0,
  1, 2, 3, 4, 5, 6, 7, 8, 11], [2], [(0, [3])]), ([0, 2, 3, 6], [2, 3], []), ([0], [0], []), ([0, 2], [2], []), ([0, 2, 3, 5, 6, 7, 20], [2], [(0, [0])]), ([0, 1, 4, 5,
  6, 7, 8, 14, 24], [4, 5], []), ([0, 1, 4, 5, 6, 7, 8, 19, 32, 39], [4], []), ([0, 1, 4, 5, 6, 7, 18, 29], [4], []), ([0, 2], [2], []), ([0, 2, 3, 4, 5, 6, 7, 8, 9, 18,
  30, 51, 52, 53, 54, 60], [2, 3], [(1, [4]), (3, [0, 2, 3, 4, 5, 6, 9, 18])]), ([0, 2, 4], [2], []), ([0, 1, 4, 5, 20], [4], []), ([0, 2, 4], [2], []), ([0, 2], [2],
  []), ([0, 1, 2, 3, 4], [0], [(0, [0, 1])]), ([0, 1, 4, 5, 6, 7, 8, 9, 10, 12, 21, 51], [4, 5], [(0, [])]), ([0, 1, 4, 5, 6, 7, 11, 12, 13, 21, 24], [4], [(0, [0])]),
  ([0, 1, 4, 5, 6, 7, 8, 15, 29], [4], []), ([0, 1, 4, 5, 6, 7, 8, 13, 20, 32, 35, 55], [4], []), ([0, 2, 3, 4], [2], []), ([0, 1, 4, 5, 6, 14], [4], [(0, [0, 5])]),
  ([0, 2], [2], []), ([0, 2], [2], []), ([0, 1, 4, 7], [4], []), ([0, 2, 3, 4, 6, 14, 15, 16, 17, 18], [2, 3], [(0, [4])]), ([0, 1, 4], [4], []), ([0, 2], [2], []), ([0,
  1, 2, 4, 5, 6], [6], []), ([0, 1, 4, 5, 7, 8, 9, 16], [4], [(0, [])]), ([0, 1, 4], [4], []), ([0, 1, 2, 4], [4], []), ([0, 1, 4, 5, 7, 8, 9, 16], [4], [(0, [])]), ([],
  [], []), ([], [], []), ([], [], []), ([], [], []), ([], [], []), ([], [], []), ([], [], []), ([], [], []), ([], [], []), ([], [], []), ([], [], []), ([], [], []), ([],
  [], []), ([], [], []), ([], [], []), ([], [], []), ([], [], []), ([], [], []), ([], [], []), ([], [], []), ([], [], []), ([], [], []), ([], [], [])]
def gt (f : Nat) : Hint := gtL.getD f ([], [], [])
theorem okd : okDsts Tryz.prog = true := by kernel_rfl
abbrev ii (x : Int) : Value := .int .i64 x
abbrev i1 (x : Int) : Value := .int .u8 x
abbrev i3 (x : Int) : Value := .int .u32 x
abbrev i6 (x : Int) : Value := .int .u64 x
abbrev bT : Value := .bool true
abbrev bF : Value := .bool false
abbrev nP : Value := .pointer none
abbrev nS : Value := .slice none 0 0
abbrev RT := FuncId → Array Value → M Value
abbrev V := Value
abbrev KT := Ex → Fr → M Value
def pb : Nat → Nat → List Bool
  | 0, _ => []
  | l + 1, n => (Nat.beq (n % 2) 1) :: pb l (n / 2)
def zp : List Nat → List Value → Fr
  | [], _ => []
  | _, [] => []
  | a :: l, v :: m => (a, v) :: zp l m
noncomputable def cQ (f : Nat) (p : List Bool) (lf : Nat) (r : RT) : Fr → KT → M Value := fun s k => codeK Tryz.prog r (gt f) lf (codeAt (bodyOf Tryz.prog f) p) s k
noncomputable def tK (f : Nat) (p : List Bool) (lf : Nat) (r : RT) : KT := contAt Tryz.prog r (gt f) lf (bodyOf Tryz.prog f) p (endK Tryz.prog (resOf Tryz.prog f))
noncomputable def iK (f : Nat) (p q : List Bool) (s : List Nat) (fu : Nat) (K : KT) (lf : Nat) (r : RT) : KT := contAt Tryz.prog r (gt f) lf (codeAt (bodyOf Tryz.prog f) p) q (againK (fun x => loopK (cQ f p lf r) s fu (x.keep s) K) K)
theorem shOf {lf d : Nat} {f : FuncId} {a : Array Value} {b : RT → M Value} (s : ∀ r, evStep Tryz.prog gt lf r f a = b r) (h : KN.contains f = false) : evCall2 Tryz.prog gt lf (d + 1) f a = b (evCall2 Tryz.prog gt lf d) := by
  show (match KN.contains f with
    | true => _
    | false => evStep Tryz.prog gt lf (evCall2 Tryz.prog gt lf d) f a : M Value) = _
  rw [h]
  exact s _
theorem run_same {β : Type} {W : Nat → Prop} {n0 : Nat} {h : H} {n : Nat} {Q : β → H → Nat → Prop} {lf d : Nat} {f : FuncId} {vs : List Value} {v : Value} {W' : Nat → Prop} (s : Run W' n (evCall2 Tryz.prog gt lf d f ⟨vs⟩) h n fun v' h' n' => v' = v ∧ h' = h ∧ n' = n) (hn : n0 ≤ n) (hW : ∀ b, b < n → W' b → n0 ≤ b ∨ W b) {k : Value → M β} (x : Run W n0 (k v) h n Q) : Run W n0 (kcl (evCall2 Tryz.prog gt lf d) f vs k) h n Q := by
  refine run_call okd s hn hW fun v' h' n' _ _ hq => ?_
  obtain ⟨rfl, rfl, rfl⟩ := hq
  exact x
noncomputable section
def z33 : List Value := [(ii 0), (ii 0), (ii 0), (ii 0), (i3 0), (ii 0), (ii 0), (ii 0)]
def z34 : List Value := [(ii 0), (ii 0), (ii 0), (ii 0), (i3 0), (ii 0), (ii 0), (ii 0)]
def z43 : List Value := [(ii 0), (ii 0), (ii 0), (ii 0), (ii 0)]
def z51 : List Value := [(Value.string { data := #[] }), (ii 0)]
def z60 : List Value := [nP, (ii 0), (Value.string { data := #[] }), bF]
def z67 : List Value := [(ii 0), (ii 0)]
def z73 : List Value := [nS]
def z85 : List Value := [nP, (ii 0), (Value.string { data := #[] }), bF]
def z87 : List Value := [(ii 0), (ii 0)]
def z98 : List Value := [(Value.string { data := #[] }), nP, nP, nS, (ii 0), (i3 0)]
def z107 : List Value := [nP, nS]
def z120 : List Value := [(Value.string { data := #[] }), (Value.string { data := #[] })]
def z126 : List Value := [(Value.string { data := #[] }), (ii 0), (ii 0)]
def z132 : List Value := [(ii 0), (ii 0), bF, nP, nP, nP, bF, nS, bF, (ii 0), (ii 0)]
def z134 : List Value := [(Value.string { data := #[] }), (ii 0), (i3 0)]
def z139 : List Value := [(Value.string { data := #[] }), (ii 0), (i3 0), nP, nP, nP]
def z142 : List Value := [nP, (ii 0)]
def z144 : List Value := [nP, (ii 0), (Value.string { data := #[] }), bF]
def z150 : List Value := [(ii 0), (ii 0), (ii 0), (ii 0), nP, (Value.string { data := #[] }), (ii 0), (i3 0), (i3 0), bF, (ii 0)]
def z152 : List Value := [(Value.string { data := #[] }), (ii 0), (ii 0)]
def z157 : List Value := [(Value.string { data := #[] }), (ii 0), (i3 0)]
def z159 : List Value := [(Value.string { data := #[] }), (ii 0), (i3 0), (ii 0), (ii 0), (ii 0)]
def z168 : List Value := [(i1 0), (ii 0)]
def z171 : List Value := [(Value.string { data := #[] }), (ii 0)]
def z176 : List Value := (appV [(Value.string { data := #[] })] (appV (repV (ii 0) 256) (appV [nS] (appV [(ii 0)] (appV [nS] [(ii 0)])))))
def z185 : List Value := [(Value.string { data := #[] }), (ii 0), (ii 0)]
def z188 : List Value := [nS, (ii 0), (ii 0), (ii 0)]
def z207 : List Value := [nP, (ii 0), bF, (i3 0), (ii 0), nS, bF, (ii 0)]
def z212 : List Value := [nP, nP, nP, (ii 0), (ii 0)]
def z224 : List Value := [nS, (ii 0), (ii 0), (ii 0), (ii 0)]
def z228 : List Value := [nS, (ii 0), (ii 0)]
def z233 : List Value := [(ii 0), (ii 0), (ii 0), nS, bF]
def z235 : List Value := [(ii 0), (ii 0), (ii 0), nS, bF, (ii 0), (ii 0), (ii 0)]
def z243 : List Value := [nS, nS]
def z252 : List Value := [(ii 0), nP, nS, nP, nS, (ii 0), bF, (ii 0)]
def z255 : List Value := [(i1 0), (ii 0)]
def z257 : List Value := (repV (i3 0) 256)
def z260 : List Value := (repV (i3 0) 257)
def z269 : List Value := [nS, (ii 0), (ii 0)]
def z280 : List Value := [(ii 0), (ii 0), (ii 0), (ii 0), (ii 0), (ii 0)]
def z282 : List Value := [(ii 0), (ii 0), (ii 0), (ii 0), (ii 0), (ii 0), (ii 0), (ii 0), nS, bF]
def z299 : List Value := [(ii 0), (ii 0), nS]
def z317 : List Value := [nS]
def z321 : List Value := (repV bF 256)
def z328 : List Value := [(ii 0), (ii 0), (ii 0), (ii 0), (ii 0), bF]
def z333 : List Value := [(ii 0), (ii 0), nS, bF]
def z338 : List Value := (appV [nS, nS, nS] (repV (ii 0) 43))
theorem zr33 : z33 = [(ii 0), (ii 0), (ii 0), (ii 0), (i3 0), (ii 0), (ii 0), (ii 0)] := rfl
theorem zr34 : z34 = [(ii 0), (ii 0), (ii 0), (ii 0), (i3 0), (ii 0), (ii 0), (ii 0)] := rfl
theorem zr43 : z43 = [(ii 0), (ii 0), (ii 0), (ii 0), (ii 0)] := rfl
theorem zr51 : z51 = [(Value.string { data := #[] }), (ii 0)] := rfl
theorem zr60 : z60 = [nP, (ii 0), (Value.string { data := #[] }), bF] := rfl
theorem zr67 : z67 = [(ii 0), (ii 0)] := rfl
theorem zr73 : z73 = [nS] := rfl
theorem zr85 : z85 = [nP, (ii 0), (Value.string { data := #[] }), bF] := rfl
theorem zr87 : z87 = [(ii 0), (ii 0)] := rfl
theorem zr98 : z98 = [(Value.string { data := #[] }), nP, nP, nS, (ii 0), (i3 0)] := rfl
theorem zr107 : z107 = [nP, nS] := rfl
theorem zr120 : z120 = [(Value.string { data := #[] }), (Value.string { data := #[] })] := rfl
theorem zr126 : z126 = [(Value.string { data := #[] }), (ii 0), (ii 0)] := rfl
theorem zr132 : z132 = [(ii 0), (ii 0), bF, nP, nP, nP, bF, nS, bF, (ii 0), (ii 0)] := rfl
theorem zr134 : z134 = [(Value.string { data := #[] }), (ii 0), (i3 0)] := rfl
theorem zr139 : z139 = [(Value.string { data := #[] }), (ii 0), (i3 0), nP, nP, nP] := rfl
theorem zr142 : z142 = [nP, (ii 0)] := rfl
theorem zr144 : z144 = [nP, (ii 0), (Value.string { data := #[] }), bF] := rfl
theorem zr150 : z150 = [(ii 0), (ii 0), (ii 0), (ii 0), nP, (Value.string { data := #[] }), (ii 0), (i3 0), (i3 0), bF, (ii 0)] := rfl
theorem zr152 : z152 = [(Value.string { data := #[] }), (ii 0), (ii 0)] := rfl
theorem zr157 : z157 = [(Value.string { data := #[] }), (ii 0), (i3 0)] := rfl
theorem zr159 : z159 = [(Value.string { data := #[] }), (ii 0), (i3 0), (ii 0), (ii 0), (ii 0)] := rfl
theorem zr168 : z168 = [(i1 0), (ii 0)] := rfl
theorem zr171 : z171 = [(Value.string { data := #[] }), (ii 0)] := rfl
theorem zr185 : z185 = [(Value.string { data := #[] }), (ii 0), (ii 0)] := rfl
theorem zr188 : z188 = [nS, (ii 0), (ii 0), (ii 0)] := rfl
theorem zr207 : z207 = [nP, (ii 0), bF, (i3 0), (ii 0), nS, bF, (ii 0)] := rfl
theorem zr212 : z212 = [nP, nP, nP, (ii 0), (ii 0)] := rfl
theorem zr224 : z224 = [nS, (ii 0), (ii 0), (ii 0), (ii 0)] := rfl
theorem zr228 : z228 = [nS, (ii 0), (ii 0)] := rfl
theorem zr233 : z233 = [(ii 0), (ii 0), (ii 0), nS, bF] := rfl
theorem zr235 : z235 = [(ii 0), (ii 0), (ii 0), nS, bF, (ii 0), (ii 0), (ii 0)] := rfl
theorem zr243 : z243 = [nS, nS] := rfl
theorem zr252 : z252 = [(ii 0), nP, nS, nP, nS, (ii 0), bF, (ii 0)] := rfl
theorem zr255 : z255 = [(i1 0), (ii 0)] := rfl
theorem zr257 : z257 = List.replicate 256 (i3 0) := repV_eq _ _
theorem zr269 : z269 = [nS, (ii 0), (ii 0)] := rfl
theorem zr280 : z280 = [(ii 0), (ii 0), (ii 0), (ii 0), (ii 0), (ii 0)] := rfl
theorem zr282 : z282 = [(ii 0), (ii 0), (ii 0), (ii 0), (ii 0), (ii 0), (ii 0), (ii 0), nS, bF] := rfl
theorem zr299 : z299 = [(ii 0), (ii 0), nS] := rfl
theorem zr317 : z317 = [nS] := rfl
theorem zr321 : z321 = List.replicate 256 bF := repV_eq _ _
theorem zr328 : z328 = [(ii 0), (ii 0), (ii 0), (ii 0), (ii 0), bF] := rfl
theorem zr333 : z333 = [(ii 0), (ii 0), nS, bF] := rfl

/- balerlaw47_InspectParts -/
def lpA_balerlaw47_InspectParts (lf : Nat) (r : RT) : Nat→((M V) × (V→M V))→V→V→V→V→V→V→V→V→V→V→V→V→M V
  | 0, _, _, _, _, _, _, _, _, _, _, _, _, _ => .fail
  | fu + 1, k, a, b, c, d, e, f, g, h, i, j, l, m => kls m l fun n => ifV n (kiy 8 j m fun o => klg 8 o fun p => kal 33 z33 fun q => ksg 8 q p fun _ => (timed (klg 8 q
   M.ret)).bind fun o => (timed (kcl r 17 [o.1] M.ret)).bind fun p => kiy 8 f m fun s => (timed (klg 8 s M.ret)).bind fun t => kgn [0, 0, 0, 0, 0, 0, 0, 0] p.1 t.1 fun u
   => chkT ((!(clash3 p.2 t.2) && true) && true) (ifV u (k.2 bF) (kad m (ii 1) fun o => lpA_balerlaw47_InspectParts lf r fu k a b c d e f g h i j l o))) (k.1)
def sA_balerlaw47_InspectParts : List Nat := [0, 1, 4, 5, 6, 7, 20, 30, 55, 56, 57, 58]
def kcA_balerlaw47_InspectParts (lf : Nat) (r : RT) : (M V) × (V→M V) := (kcl r 12 [] fun a => outK [a], fun a => outK [a])
def b_balerlaw47_InspectParts (lf : Nat) (r : RT) (a b : V) : M V := klx b fun c => kgr c (ii 250) fun d => ifV d (kcl r 12 [] fun c => outK [c]) (kgr a (ii 1000) fun e
  => ifV e (klq a (ii 100000) fun f => ifV f (kcl r 12 [] fun c => outK [c]) (kcl r 13 [a, b] fun c => kex c 0 fun d => kex c 1 fun e => kcl r 14 [a] fun c => knt c fun
  g => ifV g (keq e (ii 1) fun c => ifV c (kln d fun h => keq h (ii 0) fun i => ifV i (kcl r 12 [] fun j => outK [j]) (outK [bF])) (outK [bF])) (kcl r 15 [a, b] fun c =>
  kcl r 16 [a, b] fun h => kne e h fun i => ifV i (outK [bF]) (kln d fun j => kln c fun l => kne j l fun m => ifV m (outK [bF]) (kln d fun h =>
  lpA_balerlaw47_InspectParts lf r lf (kcA_balerlaw47_InspectParts lf r) a b bF d e c f g m d h (ii 0)))))) (kcl r 13 [a, b] fun c => kex c 0 fun d => kex c 1 fun e =>
  kcl r 14 [a] fun c => knt c fun f => ifV f (keq e (ii 1) fun c => ifV c (kln d fun g => keq g (ii 0) fun h => ifV h (kcl r 12 [] fun i => outK [i]) (outK [bF])) (outK
  [bF])) (kcl r 15 [a, b] fun c => kcl r 16 [a, b] fun g => kne e g fun h => ifV h (outK [bF]) (kln d fun i => kln c fun j => kne i j fun l => ifV l (outK [bF]) (kln d
  fun g => lpA_balerlaw47_InspectParts lf r lf (kcA_balerlaw47_InspectParts lf r) a b bF d e c bF f l d g (ii 0))))))
theorem lqA_balerlaw47_InspectParts {lf : Nat} {r : RT} (K : KT) : ∀ fu, lpA_balerlaw47_InspectParts lf r fu ((K (.exit 0) [], fun a => K .ret (zp [4] [a]))) = fun a b c
  d e f g h i j l m => loopK (cQ 3 (pb 10 191) lf r) sA_balerlaw47_InspectParts fu (zp sA_balerlaw47_InspectParts [a, b, c, d, e, f, g, h, i, j, l, m]) K
  | 0 => by funext a b c d e f g h i j l m; kernel_rfl
  | fu + 1 => by
    have ih := lqA_balerlaw47_InspectParts (lf := lf) (r := r) K fu
    funext a b c d e f g h i j l m
    rw [lpA_balerlaw47_InspectParts]
    simp only [ih]
    kernel_rfl
theorem kqA_balerlaw47_InspectParts {lf : Nat} {r : RT} : kcA_balerlaw47_InspectParts lf r = (((tK 3 (pb 9 191) lf r) (.exit 0) [], fun a => (tK 3 (pb 9 191) lf r) .ret (zp [4] [a]))) := by kernel_rfl
theorem st_balerlaw47_InspectParts {lf : Nat} {r : RT} {a b : V} : evStep Tryz.prog gt lf r 3 #[a, b] = inside (b_balerlaw47_InspectParts lf r a b) := by 
  unfold b_balerlaw47_InspectParts
  simp only [kqA_balerlaw47_InspectParts, lqA_balerlaw47_InspectParts]
  kernel_rfl

/- balerlaw47_InspectTexts -/
def lpA_balerlaw47_InspectTexts (lf : Nat) (r : RT) : Nat→((V→V→V→M V) × (V→M V))→V→V→V→V→V→V→V→V→V→M V
  | 0, _, _, _, _, _, _, _, _, _, _ => .fail
  | fu + 1, k, a, b, c, d, e, f, g, h, i => kls i h fun j => ifV j (kiy 8 g i fun l => klg 8 l fun m => kal 33 z33 fun n => ksg 8 n m fun _ => klg 8 n fun l => kcl r 19
   [l] fun m => kex m 0 fun o => kex m 1 fun p => klg 8 n fun l => kcl r 17 [l] fun m => kcl r 20 [m] fun q => kne o q fun l => ifV l (k.2 bF) (keq p (ii 0) fun m => kne
   q (Value.string { data := #[] }) fun s => kbn m s fun t => ifV t (k.2 bF) (kne p (ii 0) fun u => ifV u (kne p (ii 1) fun v => ifV v (k.2 bF) (keq q (Value.string {
   data := #[] }) fun l => ifV l (keq d (ii 1) fun m => ifV m (keq c (Value.string { data := #[] }) fun s => ifV s (kcl r 12 [] fun t => k.2 t) (k.2 bF)) (k.2 bF)) (kad
   e q fun m => kad m (Value.string { data := #[10] }) fun s => kad i (ii 1) fun e => lpA_balerlaw47_InspectTexts lf r fu k a b c d s f g h e))) (keq q (Value.string {
   data := #[] }) fun l => ifV l (keq d (ii 1) fun m => ifV m (keq c (Value.string { data := #[] }) fun s => ifV s (kcl r 12 [] fun t => k.2 t) (k.2 bF)) (k.2 bF)) (kad
   e q fun m => kad m (Value.string { data := #[10] }) fun s => kad i (ii 1) fun e => lpA_balerlaw47_InspectTexts lf r fu k a b c d s f g h e))))) (k.1 c d e)
def sA_balerlaw47_InspectTexts : List Nat := [0, 2, 3, 4, 5, 13, 20, 21, 22]
def kcA_balerlaw47_InspectTexts (lf : Nat) (r : RT) : (V→V→V→M V) × (V→M V) := (fun a b c => keq b (ii 0) fun d => ifV d (keq a c fun e => ifV e (kcl r 12 [] fun f =>
  outK [f]) (outK [bF])) (outK [bF]), fun a => outK [a])
def b_balerlaw47_InspectTexts (lf : Nat) (r : RT) (a : V) : M V := kln a fun b => kgr b (ii 60) fun c => ifV c (kcl r 12 [] fun b => outK [b]) (kcl r 18 [a] fun b => kex
  b 0 fun d => kex b 1 fun e => kln a fun b => lpA_balerlaw47_InspectTexts lf r lf (kcA_balerlaw47_InspectTexts lf r) a bF d e (Value.string { data := #[] }) c a b (ii 0))
theorem lqA_balerlaw47_InspectTexts {lf : Nat} {r : RT} (K : KT) : ∀ fu, lpA_balerlaw47_InspectTexts lf r fu ((fun a b c => K (.exit 0) (zp [3, 4, 5] [a, b, c]), fun a
  => K .ret (zp [2] [a]))) = fun a b c d e f g h i => loopK (cQ 4 (pb 8 47) lf r) sA_balerlaw47_InspectTexts fu (zp sA_balerlaw47_InspectTexts [a, b, c, d, e, f, g, h, i]) K
  | 0 => by funext a b c d e f g h i; kernel_rfl
  | fu + 1 => by
    have ih := lqA_balerlaw47_InspectTexts (lf := lf) (r := r) K fu
    funext a b c d e f g h i
    rw [lpA_balerlaw47_InspectTexts]
    simp only [ih]
    kernel_rfl
theorem kqA_balerlaw47_InspectTexts {lf : Nat} {r : RT} : kcA_balerlaw47_InspectTexts lf r = ((fun a b c => (tK 4 (pb 7 47) lf r) (.exit 0) (zp [3, 4, 5] [a, b, c]), fun
  a => (tK 4 (pb 7 47) lf r) .ret (zp [2] [a]))) := by kernel_rfl
theorem st_balerlaw47_InspectTexts {lf : Nat} {r : RT} {a : V} : evStep Tryz.prog gt lf r 4 #[a] = inside (b_balerlaw47_InspectTexts lf r a) := by 
  unfold b_balerlaw47_InspectTexts
  simp only [kqA_balerlaw47_InspectTexts, lqA_balerlaw47_InspectTexts]
  kernel_rfl

/- balerlaw47_InspectCounts -/
def lpA_balerlaw47_InspectCounts (lf : Nat) (r : RT) : Nat→((V→V→V→M V) × (V→M V))→V→V→V→V→V→V→V→V→M V
  | 0, _, _, _, _, _, _, _, _, _ => .fail
  | fu + 1, k, a, b, c, d, e, f, g, h => kls h g fun i => ifV i (kiy 8 f h fun j => klg 8 j fun l => kal 33 z33 fun m => ksg 8 m l fun _ => kfa 2 m fun j => kld j fun l
   => kls l (ii 0) fun n => ifV n (kcl r 12 [] fun j => k.2 j) (kfa 3 m fun o => kld o fun p => kls p (ii 0) fun q => ifV q (kcl r 12 [] fun j => k.2 j) (kfa 0 m fun j
   => kld j fun l => keq l (ii 2) fun n => (fun l => ifV n (kfa 1 d fun j => kld j fun o => kad o (ii 1) fun p => kfa 1 d fun s => kst s p fun _ => kfa 2 d fun j =>
   (timed (kld j M.ret)).bind fun o => kfa 6 m fun p => (timed (kld p M.ret)).bind fun s => (timed (kcl r 22 [s.1] M.ret)).bind fun t => kad o.1 t.1 fun u => (timed (kcl
   r 22 [u] M.ret)).bind fun v => kfa 2 d fun w => (timed (kst w v.1 M.ret)).bind fun x => chkT ((!(clash3 o.2 t.2) && true) && true) (kfa 3 d fun j => (timed (kld j
   M.ret)).bind fun o => kfa 7 m fun p => (timed (kld p M.ret)).bind fun s => (timed (kcl r 22 [s.1] M.ret)).bind fun t => kad o.1 t.1 fun u => (timed (kcl r 22 [u]
   M.ret)).bind fun v => kfa 3 d fun w => (timed (kst w v.1 M.ret)).bind fun x => chkT ((!(clash3 o.2 t.2) && true) && true) (l))) (l)) (kfa 0 m fun j => kld j fun l =>
   keq l (ii 3) fun o => ifV o (kfa 0 d fun j => kld j fun l => kad l (ii 1) fun p => kfa 0 d fun s => kst s p fun _ => kad h (ii 1) fun j =>
   lpA_balerlaw47_InspectCounts lf r fu k a b c d e f g j) (kad h (ii 1) fun j => lpA_balerlaw47_InspectCounts lf r fu k a b c d e f g j))))) (k.1 a c d)
def sA_balerlaw47_InspectCounts : List Nat := [0, 2, 3, 4, 9, 14, 15, 16]
def kcA_balerlaw47_InspectCounts (lf : Nat) (r : RT) : (V→V→V→M V) × (V→M V) := (fun a b c => kln a fun d => kgr d (ii 0) fun e => ifV e (kln a fun f => ksb f (ii 1) fun
  g => kiy 8 a g fun h => kfa 3 h fun i => kld i fun j => kiy 8 a (ii 0) fun l => kfa 2 l fun m => kld m fun n => kgr j n fun o => (fun d => ifV o (kln a fun e => ksb e
  (ii 1) fun f => kiy 8 a f fun g => kfa 3 g fun h => kld h fun i => kiy 8 a (ii 0) fun j => kfa 2 j fun l => kld l fun m => ksb i m fun n => kfa 4 c fun p => kst p n
  fun _ => d) (d)) (klg 5 b fun d => klg 5 c fun e => kge [0, 0, 0, 0, 0] d e fun f => ifV f (kcl r 12 [] fun g => outK [g]) (outK [bF]))) (klg 5 b fun d => klg 5 c fun
  e => kge [0, 0, 0, 0, 0] d e fun f => ifV f (kcl r 12 [] fun g => outK [g]) (outK [bF])), fun a => outK [a])
def b_balerlaw47_InspectCounts (lf : Nat) (r : RT) (a : V) : M V := kln a fun b => kgr b (ii 100) fun c => ifV c (kcl r 12 [] fun b => outK [b]) (kcl r 21 [a] fun b =>
  kal 43 z43 fun d => ksg 5 d b fun _ => kbd z43 [] fun b => kal 43 z43 fun e => ksg 5 e b fun _ => kln a fun b => lpA_balerlaw47_InspectCounts lf r lf (kcA_balerlaw47_InspectCounts lf r) a bF d e c a b (ii 0))
theorem lqA_balerlaw47_InspectCounts {lf : Nat} {r : RT} (K : KT) : ∀ fu, lpA_balerlaw47_InspectCounts lf r fu ((fun a b c => K (.exit 0) (zp [0, 3, 4] [a, b, c]), fun a
  => K .ret (zp [2] [a]))) = fun a b c d e f g h => loopK (cQ 5 (pb 8 47) lf r) sA_balerlaw47_InspectCounts fu (zp sA_balerlaw47_InspectCounts [a, b, c, d, e, f, g, h]) K
  | 0 => by funext a b c d e f g h; kernel_rfl
  | fu + 1 => by
    have ih := lqA_balerlaw47_InspectCounts (lf := lf) (r := r) K fu
    funext a b c d e f g h
    rw [lpA_balerlaw47_InspectCounts]
    simp only [ih]
    kernel_rfl
theorem kqA_balerlaw47_InspectCounts {lf : Nat} {r : RT} : kcA_balerlaw47_InspectCounts lf r = ((fun a b c => (tK 5 (pb 7 47) lf r) (.exit 0) (zp [0, 3, 4] [a, b, c]),
  fun a => (tK 5 (pb 7 47) lf r) .ret (zp [2] [a]))) := by kernel_rfl
theorem st_balerlaw47_InspectCounts {lf : Nat} {r : RT} {a : V} : evStep Tryz.prog gt lf r 5 #[a] = inside (b_balerlaw47_InspectCounts lf r a) := by 
  unfold b_balerlaw47_InspectCounts
  simp only [kqA_balerlaw47_InspectCounts, lqA_balerlaw47_InspectCounts]
  kernel_rfl

/- balerlaw47_InspectWhole -/
def lpA_balerlaw47_InspectWhole (lf : Nat) (r : RT) : Nat→((V→V→V→V→V→V→V→V→M V) × (V→M V))→V→V→V→V→V→V→V→V→V→V→V→V→V→V→V→M V
  | 0, _, _, _, _, _, _, _, _, _, _, _, _, _, _, _, _ => .fail
  | fu + 1, k, a, b, c, d, e, f, g, h, i, j, l, m, n, o, p => kls p o fun q => ifV q (kiy 8 n p fun s => klg 8 s fun t => kal 33 z33 fun u => ksg 8 u t fun _ => kfa 2 u
   fun s => kld s fun t => kne t i fun v => ifV v (k.2 bF) (kfa 3 u fun w => kld w fun x => klq x i fun y => ifV y (k.2 bF) (kfa 3 u fun s => kld s fun t => kfa 0 u fun
   i => kld i fun s => keq s (ii 1) fun i => ifV i (kad p (ii 1) fun l => lpA_balerlaw47_InspectWhole lf r fu k a b c d e f g h t j nS m n o l) (keq s (ii 2) fun v =>
   ifV v (kfa 4 u fun w => kld w fun x => kb1 31 1 x fun z => kap 31 1 l z fun A => kfa 7 u fun l => kld l fun w => kad j w fun x => kad p (ii 1) fun j =>
   lpA_balerlaw47_InspectWhole lf r fu k a b c d e f g h t x A m n o j) (kfa 4 u fun w => (timed (kld w M.ret)).bind fun x => (timed (kcl r 25 [l] M.ret)).bind fun z =>
   kne x.1 z.1 fun A => chkT ((!(clash3 x.2 z.2) && true) && true) (ifV A (k.2 bF) (kad t (ii 7) fun w => kqu w (ii 8) fun x => kml x (ii 8) fun z => kad p (ii 1) fun t
   => lpA_balerlaw47_InspectWhole lf r fu k a b c d e f g h z j l m n o t))))))) (k.1 b c d f g h i j)
def sA_balerlaw47_InspectWhole : List Nat := [0, 1, 2, 3, 6, 7, 8, 9, 10, 11, 12, 34, 54, 55, 56]
def kcA_balerlaw47_InspectWhole (lf : Nat) (r : RT) : (V→V→V→V→V→V→V→V→M V) × (V→M V) := (fun a b c d e f g h => keq f (ii 0) fun i => ifV i (klx d fun j => kml (ii 8) j
  fun l => keq g l fun m => ifV m (klx a fun n => klx b fun o => kad n o fun p => keq h p fun q => ifV q (kia 2 c (ii 1) fun s => kld s fun t => kcl r 26 [t, d] fun u =>
  kfd 0 u fun v => kad a b fun w => keq v w fun x => ifV x (kcl r 21 [e] fun y => kfd 0 y fun z => keq z (ii 2) fun A => ifV A (kcl r 12 [] fun B => outK [B]) (outK
  [bF])) (outK [bF])) (outK [bF])) (outK [bF])) (outK [bF]), fun a => outK [a])
def b_balerlaw47_InspectWhole (lf : Nat) (r : RT) (a b c : V) : M V := kbx 46 a fun d => klx b fun e => kgr e (ii 60) fun f => ifV f (kcl r 12 [] fun e => outK [e]) (klx
  c fun g => kgr g (ii 60) fun h => ifV h (kcl r 12 [] fun e => outK [e]) (kia 2 d (ii 0) fun i => kld i fun j => kcl r 23 [j] fun l => knt l fun m => ifV m (kcl r 12 []
  fun e => outK [e]) (kia 2 d (ii 1) fun n => kld n fun o => kcl r 14 [o] fun p => knt p fun q => ifV q (kcl r 12 [] fun e => outK [e]) (kia 2 d (ii 0) fun e => (timed
  (kld e M.ret)).bind fun f => kia 2 d (ii 1) fun g => (timed (kld g M.ret)).bind fun h => (timed (kcl r 24 [f.1, h.1, b] M.ret)).bind fun i => kia 2 d (ii 1) fun j =>
  (timed (kld j M.ret)).bind fun l => (timed (kcl r 24 [(ii 1), l.1, c] M.ret)).bind fun m => kad i.1 m.1 fun n => chkT ((!(clash3 i.2 l.2) && true) && true) (kia 2 d
  (ii 1) fun e => kld e fun f => kcl r 13 [f, n] fun g => kex g 0 fun h => kex g 1 fun i => kln h fun e => lpA_balerlaw47_InspectWhole lf r lf
  (kcA_balerlaw47_InspectWhole lf r) a b c d bF n h i (ii 0) (ii 0) nS q h e (ii 0))))))
theorem lqA_balerlaw47_InspectWhole {lf : Nat} {r : RT} (K : KT) : ∀ fu, lpA_balerlaw47_InspectWhole lf r fu ((fun a b c d e f g h => K (.exit 0) (zp [1, 2, 3, 7, 8, 9,
  10, 11] [a, b, c, d, e, f, g, h]), fun a => K .ret (zp [6] [a]))) = fun a b c d e f g h i j l m n o p => loopK (cQ 6 (pb 11 383) lf r) sA_balerlaw47_InspectWhole fu
  (zp sA_balerlaw47_InspectWhole [a, b, c, d, e, f, g, h, i, j, l, m, n, o, p]) K
  | 0 => by funext a b c d e f g h i j l m n o p; kernel_rfl
  | fu + 1 => by
    have ih := lqA_balerlaw47_InspectWhole (lf := lf) (r := r) K fu
    funext a b c d e f g h i j l m n o p
    rw [lpA_balerlaw47_InspectWhole]
    simp only [ih]
    kernel_rfl
theorem kqA_balerlaw47_InspectWhole {lf : Nat} {r : RT} : kcA_balerlaw47_InspectWhole lf r = ((fun a b c d e f g h => (tK 6 (pb 10 383) lf r) (.exit 0) (zp [1, 2, 3, 7,
  8, 9, 10, 11] [a, b, c, d, e, f, g, h]), fun a => (tK 6 (pb 10 383) lf r) .ret (zp [6] [a]))) := by kernel_rfl
theorem st_balerlaw47_InspectWhole {lf : Nat} {r : RT} {a b c : V} : evStep Tryz.prog gt lf r 6 #[a, b, c] = inside (b_balerlaw47_InspectWhole lf r a b c) := by 
  unfold b_balerlaw47_InspectWhole
  simp only [kqA_balerlaw47_InspectWhole, lqA_balerlaw47_InspectWhole]
  kernel_rfl

/- balerlaw24_UnpressPrefix -/
def b_balerlaw24_UnpressPrefix (lf : Nat) (r : RT) (a b c : V) : M V := kbx 55 a fun d => klg 3 d fun e => kcl r 27 [e] fun f => knt f fun g => ifV g (kcl r 28 [] fun e
  => outK [e]) (kfa 0 d fun h => kld h fun i => kgr i (ii 200) fun j => ifV j (kcl r 28 [] fun e => outK [e]) (klx b fun l => kgr l (ii 30) fun m => ifV m (kcl r 28 []
  fun e => outK [e]) (klx c fun n => kgr n (ii 100) fun o => ifV o (kcl r 28 [] fun e => outK [e]) (kfa 0 d fun e => kld e fun f => kfa 1 d fun g => kld g fun h => kfa 2
  d fun i => kld i fun j => kcl r 29 [f, h, j] fun l => kex l 0 fun m => kex l 1 fun n => kfa 0 d fun e => kld e fun f => kcl r 24 [(ii 1), f, b] fun g => kad g c fun h
  => kbd z60 [(0, 1, m), (3, 1, bT)] fun e => kcl r 30 [e, h] fun f => kal 60 z60 fun g => ksg 4 g f fun _ => kfa 0 d fun e => kld e fun f => kcl r 26 [f, h] fun i =>
  kal 51 z51 fun j => ksg 2 j i fun _ => keq n (ii 0) fun e => ifV e ((timed (kcl r 31 [m] M.ret)).bind fun f => ifV f.1 ((timed (kcl r 32 [m] M.ret)).bind fun i => kfa
  1 j fun l => (timed (kld l M.ret)).bind fun p => keq i.1 p.1 fun q => ifV q (kfa 2 g fun s => (timed (kld s M.ret)).bind fun t => klx t.1 fun u => klx b fun v => kgq u
  v fun w => ifV w (kfa 2 g fun x => (timed (kld x M.ret)).bind fun y => klx b fun z => (timed (ksx y.1 none (some z) M.ret)).bind fun A => keq A.1 b fun B => ifV B
  ((timed (kcl r 28 [] M.ret)).bind fun C => chkT ((!(clash3 i.2 p.2) && true) && true) (outK [C.1])) ((timed (M.ret undef)).bind fun C => chkT ((!(clash3 i.2 p.2) &&
  true) && true) (outK [bF]))) ((timed (M.ret undef)).bind fun x => (timed (M.ret undef)).bind fun y => (timed (M.ret undef)).bind fun z => chkT ((!(clash3 i.2 p.2) &&
  true) && true) (outK [bF]))) ((timed (M.ret undef)).bind fun s => (timed (M.ret undef)).bind fun t => (timed (M.ret undef)).bind fun u => (timed (M.ret undef)).bind
  fun v => chkT ((!(clash3 i.2 p.2) && true) && true) (outK [bF]))) ((timed (M.ret undef)).bind fun i => (timed (M.ret undef)).bind fun l => (timed (M.ret undef)).bind
  fun p => (timed (M.ret undef)).bind fun q => (timed (M.ret undef)).bind fun s => (timed (M.ret undef)).bind fun t => chkT ((!(clash3 i.2 l.2) && true) && true) (outK
  [bF]))) ((timed (M.ret undef)).bind fun f => (timed (M.ret undef)).bind fun i => (timed (M.ret undef)).bind fun l => (timed (M.ret undef)).bind fun p => (timed (M.ret
  undef)).bind fun q => (timed (M.ret undef)).bind fun s => (timed (M.ret undef)).bind fun t => chkT ((!(clash3 i.2 l.2) && true) && true) (outK [bF]))))))
theorem st_balerlaw24_UnpressPrefix {lf : Nat} {r : RT} {a b c : V} : evStep Tryz.prog gt lf r 7 #[a, b, c] = inside (b_balerlaw24_UnpressPrefix lf r a b c) := by kernel_rfl

/- balerlaw24_UnpressActs -/
def lpB_balerlaw24_UnpressActs (lf : Nat) (r : RT) : Nat→((V→V→V→V→V→V→V→V→V→V→V→V→V→V→M V) × (V→M V))→V→V→V→V→V→V→V→V→V→V→V→V→V→V→V→V→V→V→M V
  | 0, _, _, _, _, _, _, _, _, _, _, _, _, _, _, _, _, _, _, _ => .fail
  | fu + 1, k, a, b, c, d, e, f, g, h, i, j, l, m, n, o, p, q, s, t => kls t s fun u => ifV u (kiy 2 q t fun v => klg 2 v fun w => kal 67 z67 fun x => ksg 2 x w fun _ =>
   klg 4 j fun v => klg 2 x fun w => kcl r 34 [v, b, w] fun y => ksg 4 j y fun _ => kfa 3 j fun v => (timed (kld v M.ret)).bind fun w => knt w.1 fun y => ifV y ((timed
   (M.ret undef)).bind fun z => (timed (M.ret undef)).bind fun A => (timed (M.ret undef)).bind fun B => chkT ((!(clash3 A.2 B.2) && true) && true) (k.2 bF)) ((timed (kcl
   r 35 [f] M.ret)).bind fun z => kgr z.1 l fun A => ifV A ((timed (M.ret undef)).bind fun B => (timed (M.ret undef)).bind fun C => chkT ((!(clash3 B.2 C.2) && true) &&
   true) (k.2 bF)) ((timed (kcl r 36 [f] M.ret)).bind fun B => kfa 2 d fun C => (timed (kld C M.ret)).bind fun D => kad D.1 (ii 250) fun E => kgr B.1 E fun G => chkT
   ((!(clash3 B.2 D.2) && true) && true) (ifV G (k.2 bF) (kad t (ii 1) fun v => lpB_balerlaw24_UnpressActs lf r fu k a b c d e f g h i j l m n o p q s v))))) (k.1 a b c d e f g h i j l m n o)
def sB_balerlaw24_UnpressActs : List Nat := [0, 1, 2, 3, 6, 7, 8, 9, 10, 11, 12, 34, 57, 67, 68, 69, 70, 71]
def KBB_balerlaw24_UnpressActs (lf : Nat) (r : RT) (k : (V→V→V→V→V→M V) × (V→M V)) (again : V→V→V→V→V→V→V→V→V→V→V→V→V→V→M V) : (V→V→V→V→V→V→V→V→V→V→V→V→V→V→M V) × (V→M
  V) := (fun a b c d e f g h i j l m n o => kad o (ii 1) fun p => again a b c d e f g h i j l m n p, fun a => k.2 a)
def lpA_balerlaw24_UnpressActs (lf : Nat) (r : RT) : Nat→((V→V→V→V→V→M V) × (V→M V))→V→V→V→V→V→V→V→V→V→V→V→V→V→V→M V
  | 0, _, _, _, _, _, _, _, _, _, _, _, _, _, _, _ => .fail
  | fu + 1, k, a, b, c, d, e, f, g, h, i, j, l, m, n, o => kls o (ii 5) fun p => ifV p (kln c fun q => lpB_balerlaw24_UnpressActs lf r lf (KBB_balerlaw24_UnpressActs lf
   r k (lpA_balerlaw24_UnpressActs lf r fu k)) a b c d e f g h i j l m n o p c q (ii 0)) (k.1 b d f h j)
def sA_balerlaw24_UnpressActs : List Nat := [0, 1, 2, 3, 6, 7, 8, 9, 10, 11, 12, 34, 57, 67]
abbrev kcB_balerlaw24_UnpressActs (lf : Nat) (r : RT) (fu : Nat) (k : (V→V→V→V→V→M V) × (V→M V)) : (V→V→V→V→V→V→V→V→V→V→V→V→V→V→M V) × (V→M V) :=
  KBB_balerlaw24_UnpressActs lf r k (lpA_balerlaw24_UnpressActs lf r fu k)
def kcA_balerlaw24_UnpressActs (lf : Nat) (r : RT) : (V→V→V→V→V→M V) × (V→M V) := (fun a b c d e => klg 4 e fun f => kcl r 30 [f, a] fun g => ksg 4 e g fun _ => kbd z60
  [(0, 1, d), (3, 1, bT)] fun f => kcl r 30 [f, a] fun g => kal 60 z60 fun h => ksg 4 h g fun _ => kfa 0 b fun f => kld f fun g => kcl r 26 [g, a] fun i => kal 51 z51
  fun j => ksg 2 j i fun _ => (timed (kcl r 31 [c] M.ret)).bind fun f => knt f.1 fun g => ifV g ((timed (M.ret undef)).bind fun i => (timed (M.ret undef)).bind fun l =>
  (timed (M.ret undef)).bind fun m => (timed (M.ret undef)).bind fun n => (timed (M.ret undef)).bind fun o => (timed (M.ret undef)).bind fun p => (timed (M.ret
  undef)).bind fun q => (timed (M.ret undef)).bind fun s => (timed (M.ret undef)).bind fun t => chkT ((!(clash3 l.2 m.2) && true) && true) (outK [bF])) ((timed (kcl r 37
  [c] M.ret)).bind fun i => knt i.1 fun l => ifV l ((timed (M.ret undef)).bind fun m => (timed (M.ret undef)).bind fun n => (timed (M.ret undef)).bind fun o => (timed
  (M.ret undef)).bind fun p => (timed (M.ret undef)).bind fun q => (timed (M.ret undef)).bind fun s => (timed (M.ret undef)).bind fun t => (timed (M.ret undef)).bind fun
  u => chkT ((!(clash3 m.2 n.2) && true) && true) (outK [bF])) ((timed (kcl r 32 [c] M.ret)).bind fun m => kfa 1 j fun n => (timed (kld n M.ret)).bind fun o => kne m.1
  o.1 fun p => ifV p ((timed (M.ret undef)).bind fun q => (timed (M.ret undef)).bind fun s => (timed (M.ret undef)).bind fun t => (timed (M.ret undef)).bind fun u =>
  (timed (M.ret undef)).bind fun v => (timed (M.ret undef)).bind fun w => chkT ((!(clash3 m.2 o.2) && true) && true) (outK [bF])) ((timed (kcl r 32 [d] M.ret)).bind fun
  q => (timed (kcl r 32 [c] M.ret)).bind fun s => kne q.1 s.1 fun t => ifV t ((timed (M.ret undef)).bind fun u => (timed (M.ret undef)).bind fun v => (timed (M.ret
  undef)).bind fun w => (timed (M.ret undef)).bind fun x => chkT ((!(clash3 m.2 o.2) && true) && true) (outK [bF])) ((timed (kcl r 38 [c] M.ret)).bind fun u => (timed
  (kcl r 38 [d] M.ret)).bind fun v => kne u.1 v.1 fun w => ifV w ((timed (M.ret undef)).bind fun x => (timed (M.ret undef)).bind fun y => chkT ((!(clash3 m.2 o.2) &&
  true) && true) (outK [bF])) (kfa 2 e fun x => (timed (kld x M.ret)).bind fun y => kfa 2 h fun z => (timed (kld z M.ret)).bind fun A => kne y.1 A.1 fun B => chkT
  ((!(clash3 m.2 o.2) && true) && true) (ifV B (outK [bF]) (kfa 1 j fun f => kld f fun g => kne g (ii 0) fun i => ifV i (kcl r 39 [c, (ii 1)] fun l => keq l (ii 0) fun m
  => ifV m (kcl r 40 [c, (Value.string { data := #[97] })] fun n => keq n (ii 0) fun o => ifV o (kcl r 28 [] fun p => outK [p]) (outK [bF])) (outK [bF])) (kfa 2 e fun l
  => kld l fun m => kfa 0 j fun n => kld n fun o => keq m o fun p => ifV p (kcl r 39 [c, (ii 1)] fun q => keq q (ii 0) fun s => ifV s (kcl r 40 [c, (Value.string { data
  := #[97] })] fun t => keq t (ii 0) fun u => ifV u (kcl r 28 [] fun v => outK [v]) (outK [bF])) (outK [bF])) (outK [bF]))))))))), fun a => outK [a])
def b_balerlaw24_UnpressActs (lf : Nat) (r : RT) (a b c : V) : M V := kbx 55 a fun d => klg 3 d fun e => kcl r 27 [e] fun f => knt f fun g => ifV g (kcl r 28 [] fun e =>
  outK [e]) (kfa 0 d fun h => kld h fun i => kgr i (ii 200) fun j => ifV j (kcl r 28 [] fun e => outK [e]) (klx b fun l => kgr l (ii 200) fun m => ifV m (kcl r 28 [] fun
  e => outK [e]) (kln c fun n => kgr n (ii 30) fun o => ifV o (kcl r 28 [] fun e => outK [e]) (kfa 0 d fun e => kld e fun f => kfa 1 d fun g => kld g fun h => kfa 2 d
  fun i => kld i fun j => kcl r 29 [f, h, j] fun l => kex l 0 fun m => kex l 1 fun n => kfa 0 d fun e => kld e fun f => kcl r 29 [f, (ii 1048576), (ii 65536)] fun g =>
  kex g 0 fun h => kex g 1 fun i => kne n (ii 0) fun e => ifV e (outK [bF]) (kne i (ii 0) fun f => ifV f (outK [bF]) (kbd z60 [(0, 1, m), (3, 1, bT)] fun e => kal 60 z60
  fun g => ksg 4 g e fun _ => kfa 0 d fun e => kld e fun j => kfa 1 d fun l => kld l fun p => kfa 2 d fun q => kld q fun s => kcl r 33 [j, p, s] fun t =>
  lpA_balerlaw24_UnpressActs lf r lf (kcA_balerlaw24_UnpressActs lf r) a b c d bF m n h i g t o f (ii 0)))))))
theorem lqB_balerlaw24_UnpressActs {lf : Nat} {r : RT} (K : KT) : ∀ fu, lpB_balerlaw24_UnpressActs lf r fu ((fun a b c d e f g h i j l m n o => K (.exit 2) (zp [0, 1, 2,
  3, 6, 7, 8, 9, 10, 11, 12, 34, 57, 67] [a, b, c, d, e, f, g, h, i, j, l, m, n, o]), fun a => K .ret (zp [6] [a]))) = fun a b c d e f g h i j l m n o p q s t => loopK
  (cQ 8 (pb 18 39295) lf r) sB_balerlaw24_UnpressActs fu (zp sB_balerlaw24_UnpressActs [a, b, c, d, e, f, g, h, i, j, l, m, n, o, p, q, s, t]) K
  | 0 => by funext a b c d e f g h i j l m n o p q s t; kernel_rfl
  | fu + 1 => by
    have ih := lqB_balerlaw24_UnpressActs (lf := lf) (r := r) K fu
    funext a b c d e f g h i j l m n o p q s t
    rw [lpB_balerlaw24_UnpressActs]
    simp only [ih]
    kernel_rfl
theorem kqB_balerlaw24_UnpressActs {lf : Nat} {r : RT} (K : KT) (fu : Nat) : KBB_balerlaw24_UnpressActs lf r ((fun a b c d e => K (.exit 0) (zp [1, 3, 7, 9, 11] [a, b,
  c, d, e]), fun a => K .ret (zp [6] [a]))) (fun a b c d e f g h i j l m n o => loopK (cQ 8 (pb 11 383) lf r) sA_balerlaw24_UnpressActs fu (zp sA_balerlaw24_UnpressActs
  [a, b, c, d, e, f, g, h, i, j, l, m, n, o]) K) = ((fun a b c d e f g h i j l m n o => (iK 8 (pb 11 383) (pb 6 19) sA_balerlaw24_UnpressActs fu K lf r) (.exit 2) (zp
  [0, 1, 2, 3, 6, 7, 8, 9, 10, 11, 12, 34, 57, 67] [a, b, c, d, e, f, g, h, i, j, l, m, n, o]), fun a => (iK 8 (pb 11 383) (pb 6 19) sA_balerlaw24_UnpressActs fu K lf r) .ret (zp [6] [a]))) := by kernel_rfl
theorem lqA_balerlaw24_UnpressActs {lf : Nat} {r : RT} (K : KT) : ∀ fu, lpA_balerlaw24_UnpressActs lf r fu ((fun a b c d e => K (.exit 0) (zp [1, 3, 7, 9, 11] [a, b, c,
  d, e]), fun a => K .ret (zp [6] [a]))) = fun a b c d e f g h i j l m n o => loopK (cQ 8 (pb 11 383) lf r) sA_balerlaw24_UnpressActs fu (zp sA_balerlaw24_UnpressActs
  [a, b, c, d, e, f, g, h, i, j, l, m, n, o]) K
  | 0 => by funext a b c d e f g h i j l m n o; kernel_rfl
  | fu + 1 => by
    have ih := lqA_balerlaw24_UnpressActs (lf := lf) (r := r) K fu
    funext a b c d e f g h i j l m n o
    rw [lpA_balerlaw24_UnpressActs]
    simp only [ih, kqB_balerlaw24_UnpressActs, lqB_balerlaw24_UnpressActs]
    kernel_rfl
theorem kqA_balerlaw24_UnpressActs {lf : Nat} {r : RT} : kcA_balerlaw24_UnpressActs lf r = ((fun a b c d e => (tK 8 (pb 10 383) lf r) (.exit 0) (zp [1, 3, 7, 9, 11] [a,
  b, c, d, e]), fun a => (tK 8 (pb 10 383) lf r) .ret (zp [6] [a]))) := by kernel_rfl
theorem st_balerlaw24_UnpressActs {lf : Nat} {r : RT} {a b c : V} : evStep Tryz.prog gt lf r 8 #[a, b, c] = inside (b_balerlaw24_UnpressActs lf r a b c) := by 
  unfold b_balerlaw24_UnpressActs
  simp only [kqA_balerlaw24_UnpressActs, lqA_balerlaw24_UnpressActs]
  kernel_rfl

/- balerlaw24_UnpressStops -/
def lpA_balerlaw24_UnpressStops (lf : Nat) (r : RT) : Nat→(V→V→V→V→V→V→V→V→V→V→V→M V)→V→V→V→V→V→V→V→V→V→V→M V
  | 0, _, _, _, _, _, _, _, _, _, _, _ => .fail
  | fu + 1, k, a, b, c, d, e, f, g, h, i, j => kls j i fun l => ifV l (kix g j fun m => kst m c fun _ => kad j (ii 1) fun m => lpA_balerlaw24_UnpressStops lf r fu k a b
   c d e f g h i m) (k a b c d e f g h i j l)
def sA_balerlaw24_UnpressStops : List Nat := [0, 1, 2, 3, 6, 7, 8, 24, 29, 30]
def lpB_balerlaw24_UnpressStops (lf : Nat) (r : RT) : Nat→((V→V→V→V→V→V→M V) × (V→M V))→V→V→V→V→V→V→V→V→V→V→V→V→V→V→V→V→M V
  | 0, _, _, _, _, _, _, _, _, _, _, _, _, _, _, _, _, _ => .fail
  | fu + 1, k, a, b, c, d, e, f, g, h, i, j, l, m, n, o, p, q => kls q (ii 20) fun s => ifV s (klg 4 l fun t => klx j fun u => kcl r 41 [t, j, u] fun v => ksg 4 l v fun
   _ => kcl r 39 [h, (ii 100000)] fun t => (timed (kcl r 37 [h] M.ret)).bind fun t => knt t.1 fun u => ifV u ((timed (M.ret undef)).bind fun v => (timed (M.ret
   undef)).bind fun w => (timed (M.ret undef)).bind fun x => (timed (M.ret undef)).bind fun y => (timed (M.ret undef)).bind fun z => (timed (M.ret undef)).bind fun A =>
   (timed (M.ret undef)).bind fun B => chkT ((!(clash3 v.2 w.2) && true) && ((!(clash3 x.2 y.2) && (!(clash3 x.2 z.2) && (!(clash3 x.2 A.2) && true))) && true)) (k.2
   bF)) ((timed (kcl r 36 [h] M.ret)).bind fun v => kfa 2 d fun w => (timed (kld w M.ret)).bind fun x => kad x.1 (ii 250) fun y => kgr v.1 y fun z => ifV z ((timed
   (M.ret undef)).bind fun A => (timed (M.ret undef)).bind fun B => (timed (M.ret undef)).bind fun C => (timed (M.ret undef)).bind fun D => (timed (M.ret undef)).bind
   fun E => chkT ((!(clash3 v.2 x.2) && true) && ((!(clash3 A.2 B.2) && (!(clash3 A.2 C.2) && (!(clash3 A.2 D.2) && true))) && true)) (k.2 bF)) ((timed (kcl r 35 [h]
   M.ret)).bind fun A => kfa 0 d fun B => (timed (kld B M.ret)).bind fun C => kfa 1 d fun D => (timed (kld D M.ret)).bind fun E => kfa 2 d fun G => (timed (kld G
   M.ret)).bind fun J => (timed (kcl r 33 [C.1, E.1, J.1] M.ret)).bind fun L => kgr A.1 L.1 fun N => chkT ((!(clash3 v.2 x.2) && true) && ((!(clash3 A.2 C.2) &&
   (!(clash3 A.2 E.2) && (!(clash3 A.2 J.2) && true))) && true)) (ifV N (k.2 bF) (kad q (ii 1) fun t => lpB_balerlaw24_UnpressStops lf r fu k a b c d e f g h i j l m n o p t))))) (k.1 d f h i j l)
def sB_balerlaw24_UnpressStops : List Nat := [0, 1, 2, 3, 6, 7, 8, 10, 11, 12, 13, 24, 29, 30, 31, 55]
def kcB_balerlaw24_UnpressStops (lf : Nat) (r : RT) : (V→V→V→V→V→V→M V) × (V→M V) := (fun a b c d e f => kfa 2 a fun g => kld g fun h => kls b h fun i => ifV i (kfa 1 f
  fun j => kld j fun l => klx e fun m => keq l m fun n => ifV n (kcl r 31 [c] fun o => knt o fun p => ifV p (outK [bF]) (kcl r 36 [c] fun q => kne q b fun s => ifV s
  (outK [bF]) (keq d (ii 0) fun g => ifV g (kcl r 32 [c] fun h => keq h (ii 0) fun i => ifV i (kcl r 39 [c, (ii 5)] fun j => keq j (ii 0) fun l => ifV l (kcl r 28 [] fun
  m => outK [m]) (outK [bF])) (outK [bF])) (outK [bF])))) (keq d (ii 0) fun g => ifV g (kcl r 32 [c] fun h => keq h (ii 0) fun i => ifV i (kcl r 39 [c, (ii 5)] fun j =>
  keq j (ii 0) fun l => ifV l (kcl r 28 [] fun m => outK [m]) (outK [bF])) (outK [bF])) (outK [bF]))) (keq d (ii 0) fun g => ifV g (kcl r 32 [c] fun h => keq h (ii 0)
  fun i => ifV i (kcl r 39 [c, (ii 5)] fun j => keq j (ii 0) fun l => ifV l (kcl r 28 [] fun m => outK [m]) (outK [bF])) (outK [bF])) (outK [bF])), fun a => outK [a])
def kcA_balerlaw24_UnpressStops (lf : Nat) (r : RT) : (V→V→V→V→V→V→V→V→V→V→V→M V) := fun a b c d e f g h i j l => kfa 0 d fun m => kld m fun n => kfa 1 d fun o => kld o
  fun p => kfa 2 d fun q => kld q fun s => kcl r 29 [n, p, s] fun t => kex t 0 fun u => kex t 1 fun v => kfa 0 d fun m => kld m fun n => kts g fun o => kcl r 24 [(ii 1),
  n, o] fun p => kbd z60 [(0, 1, u), (3, 1, bT)] fun m => kal 60 z60 fun n => ksg 4 n m fun _ => lpB_balerlaw24_UnpressStops lf r lf (kcB_balerlaw24_UnpressStops lf r) a b c d e f g u v p n h i j l (ii 0)
def b_balerlaw24_UnpressStops (lf : Nat) (r : RT) (a b c : V) : M V := kbx 55 a fun d => kcv .i64 b fun e => krm e (ii 2000) fun f => klg 3 d fun e => kcl r 27 [e] fun g
  => knt g fun h => ifV h (kcl r 28 [] fun e => outK [e]) (kfa 0 d fun i => kld i fun j => kgr j (ii 200) fun l => ifV l (kcl r 28 [] fun e => outK [e]) (kmk 5 [(i1 0)]
  f f fun e => kln e fun g => lpA_balerlaw24_UnpressStops lf r lf (kcA_balerlaw24_UnpressStops lf r) a b c d bF f e l g (ii 0)))
theorem lqA_balerlaw24_UnpressStops {lf : Nat} {r : RT} (K : KT) : ∀ fu, lpA_balerlaw24_UnpressStops lf r fu (fun a b c d e f g h i j l => K (.exit 0) (zp [0, 1, 2, 3,
  6, 7, 8, 24, 29, 30, 31] [a, b, c, d, e, f, g, h, i, j, l])) = fun a b c d e f g h i j => loopK (cQ 9 (pb 8 47) lf r) sA_balerlaw24_UnpressStops fu (zp
  sA_balerlaw24_UnpressStops [a, b, c, d, e, f, g, h, i, j]) K
  | 0 => by funext a b c d e f g h i j; kernel_rfl
  | fu + 1 => by
    have ih := lqA_balerlaw24_UnpressStops (lf := lf) (r := r) K fu
    funext a b c d e f g h i j
    rw [lpA_balerlaw24_UnpressStops]
    simp only [ih]
    kernel_rfl
theorem lqB_balerlaw24_UnpressStops {lf : Nat} {r : RT} (K : KT) : ∀ fu, lpB_balerlaw24_UnpressStops lf r fu ((fun a b c d e f => K (.exit 2) (zp [3, 7, 10, 11, 12, 13]
  [a, b, c, d, e, f]), fun a => K .ret (zp [6] [a]))) = fun a b c d e f g h i j l m n o p q => loopK (cQ 9 (pb 12 767) lf r) sB_balerlaw24_UnpressStops fu (zp
  sB_balerlaw24_UnpressStops [a, b, c, d, e, f, g, h, i, j, l, m, n, o, p, q]) K
  | 0 => by funext a b c d e f g h i j l m n o p q; kernel_rfl
  | fu + 1 => by
    have ih := lqB_balerlaw24_UnpressStops (lf := lf) (r := r) K fu
    funext a b c d e f g h i j l m n o p q
    rw [lpB_balerlaw24_UnpressStops]
    simp only [ih]
    kernel_rfl
theorem kqB_balerlaw24_UnpressStops {lf : Nat} {r : RT} : kcB_balerlaw24_UnpressStops lf r = ((fun a b c d e f => (tK 9 (pb 11 767) lf r) (.exit 2) (zp [3, 7, 10, 11,
  12, 13] [a, b, c, d, e, f]), fun a => (tK 9 (pb 11 767) lf r) .ret (zp [6] [a]))) := by kernel_rfl
theorem kqA_balerlaw24_UnpressStops {lf : Nat} {r : RT} : kcA_balerlaw24_UnpressStops lf r = (fun a b c d e f g h i j l => (tK 9 (pb 7 47) lf r) (.exit 0) (zp [0, 1, 2,
  3, 6, 7, 8, 24, 29, 30, 31] [a, b, c, d, e, f, g, h, i, j, l])) := by 
  unfold kcA_balerlaw24_UnpressStops
  simp only [kqB_balerlaw24_UnpressStops, lqB_balerlaw24_UnpressStops]
  kernel_rfl
theorem st_balerlaw24_UnpressStops {lf : Nat} {r : RT} {a b c : V} : evStep Tryz.prog gt lf r 9 #[a, b, c] = inside (b_balerlaw24_UnpressStops lf r a b c) := by 
  unfold b_balerlaw24_UnpressStops
  simp only [kqA_balerlaw24_UnpressStops, kqB_balerlaw24_UnpressStops, lqA_balerlaw24_UnpressStops, lqB_balerlaw24_UnpressStops]
  kernel_rfl

/- balerlaw25_TesterLong -/
def lpA_balerlaw25_TesterLong (lf : Nat) (r : RT) : Nat→(V→V→V→M V)→V→V→V→V→V→V→V→V→V→V→M V
  | 0, _, _, _, _, _, _, _, _, _, _, _ => .fail
  | fu + 1, k, a, b, c, d, e, f, g, h, i, j => kls j i fun l => ifV l (kix g j fun m => kst m c fun _ => kad j (ii 1) fun m => lpA_balerlaw25_TesterLong lf r fu k a b c d e f g h i m) (k d f g)
def sA_balerlaw25_TesterLong : List Nat := [0, 1, 2, 3, 6, 7, 8, 30, 35, 36]
def kcA_balerlaw25_TesterLong (lf : Nat) (r : RT) : (V→V→V→M V) := fun a b c => kfa 0 a fun d => kld d fun e => kcl r 44 [e, (ii 1048576)] fun f => kex f 0 fun g => kex
  f 1 fun h => kfa 0 a fun d => kld d fun e => kts c fun f => kcl r 24 [(ii 9), e, f] fun i => kcl r 45 [g, i] fun d => kcl r 46 [g] fun e => kcl r 47 [g, (ii 10000000)]
  fun f => keq h (ii 0) fun f => ifV f (keq e (ii 0) fun j => ifV j (klx i fun l => keq d l fun m => ifV m (kcl r 48 [g] fun n => ifV n (kcl r 49 [g] fun o => keq o (ii
  0) fun p => ifV p (kcl r 50 [g] fun q => keq q b fun s => ifV s (kcl r 51 [g] fun t => kcl r 52 [b] fun u => klx u fun v => keq t v fun w => ifV w (kcl r 43 [] fun x
  => outK [x]) (outK [bF])) (outK [bF])) (outK [bF])) (outK [bF])) (outK [bF])) (outK [bF])) (outK [bF])
def b_balerlaw25_TesterLong (lf : Nat) (r : RT) (a b c : V) : M V := kbx 77 a fun d => kcv .i64 b fun e => krm e (ii 20000) fun f => klg 2 d fun e => kcl r 42 [e] fun g
  => knt g fun h => ifV h (kcl r 43 [] fun e => outK [e]) (kfa 0 d fun i => kld i fun j => kgr j (ii 200) fun l => ifV l (kcl r 43 [] fun e => outK [e]) (kfa 0 d fun m
  => kld m fun n => kls n (ii 100) fun o => ifV o (kcl r 43 [] fun e => outK [e]) (kmk 5 [(i1 0)] f f fun e => kln e fun g => lpA_balerlaw25_TesterLong lf r lf
  (kcA_balerlaw25_TesterLong lf r) a b c d bF f e o g (ii 0))))
theorem lqA_balerlaw25_TesterLong {lf : Nat} {r : RT} (K : KT) : ∀ fu, lpA_balerlaw25_TesterLong lf r fu (fun a b c => K (.exit 0) (zp [3, 7, 8] [a, b, c])) = fun a b c
  d e f g h i j => loopK (cQ 10 (pb 8 47) lf r) sA_balerlaw25_TesterLong fu (zp sA_balerlaw25_TesterLong [a, b, c, d, e, f, g, h, i, j]) K
  | 0 => by funext a b c d e f g h i j; kernel_rfl
  | fu + 1 => by
    have ih := lqA_balerlaw25_TesterLong (lf := lf) (r := r) K fu
    funext a b c d e f g h i j
    rw [lpA_balerlaw25_TesterLong]
    simp only [ih]
    kernel_rfl
theorem kqA_balerlaw25_TesterLong {lf : Nat} {r : RT} : kcA_balerlaw25_TesterLong lf r = (fun a b c => (tK 10 (pb 7 47) lf r) (.exit 0) (zp [3, 7, 8] [a, b, c])) := by kernel_rfl
theorem st_balerlaw25_TesterLong {lf : Nat} {r : RT} {a b c : V} : evStep Tryz.prog gt lf r 10 #[a, b, c] = inside (b_balerlaw25_TesterLong lf r a b c) := by 
  unfold b_balerlaw25_TesterLong
  simp only [kqA_balerlaw25_TesterLong, lqA_balerlaw25_TesterLong]
  kernel_rfl

/- balerlaw25_TesterActs -/
def lpB_balerlaw25_TesterActs (lf : Nat) (r : RT) : Nat→((V→V→V→V→V→V→V→V→V→V→V→V→V→V→M V) × (V→M V))→V→V→V→V→V→V→V→V→V→V→V→V→V→V→V→V→V→V→M V
  | 0, _, _, _, _, _, _, _, _, _, _, _, _, _, _, _, _, _, _, _ => .fail
  | fu + 1, k, a, b, c, d, e, f, g, h, i, j, l, m, n, o, p, q, s, t => kls t s fun u => ifV u (kiy 2 q t fun v => klg 2 v fun w => kal 87 z87 fun x => ksg 2 x w fun _ =>
   klg 4 j fun v => klg 2 x fun w => kcl r 54 [v, b, w] fun y => ksg 4 j y fun _ => kfa 3 j fun v => kld v fun w => knt w fun y => ifV y (k.2 bF) (kcl r 55 [f] fun z =>
   kgr z l fun A => ifV A (k.2 bF) (kad t (ii 1) fun v => lpB_balerlaw25_TesterActs lf r fu k a b c d e f g h i j l m n o p q s v))) (k.1 a b c d e f g h i j l m n o)
def sB_balerlaw25_TesterActs : List Nat := [0, 1, 2, 3, 6, 7, 8, 9, 10, 11, 12, 34, 55, 63, 64, 65, 66, 67]
def KBB_balerlaw25_TesterActs (lf : Nat) (r : RT) (k : (V→V→V→V→V→M V) × (V→M V)) (again : V→V→V→V→V→V→V→V→V→V→V→V→V→V→M V) : (V→V→V→V→V→V→V→V→V→V→V→V→V→V→M V) × (V→M V)
  := (fun a b c d e f g h i j l m n o => kad o (ii 1) fun p => again a b c d e f g h i j l m n p, fun a => k.2 a)
def lpA_balerlaw25_TesterActs (lf : Nat) (r : RT) : Nat→((V→V→V→V→V→M V) × (V→M V))→V→V→V→V→V→V→V→V→V→V→V→V→V→V→M V
  | 0, _, _, _, _, _, _, _, _, _, _, _, _, _, _, _ => .fail
  | fu + 1, k, a, b, c, d, e, f, g, h, i, j, l, m, n, o => kls o (ii 5) fun p => ifV p (kln c fun q => lpB_balerlaw25_TesterActs lf r lf (KBB_balerlaw25_TesterActs lf r
   k (lpA_balerlaw25_TesterActs lf r fu k)) a b c d e f g h i j l m n o p c q (ii 0)) (k.1 b d f h j)
def sA_balerlaw25_TesterActs : List Nat := [0, 1, 2, 3, 6, 7, 8, 9, 10, 11, 12, 34, 55, 63]
abbrev kcB_balerlaw25_TesterActs (lf : Nat) (r : RT) (fu : Nat) (k : (V→V→V→V→V→M V) × (V→M V)) : (V→V→V→V→V→V→V→V→V→V→V→V→V→V→M V) × (V→M V) :=
  KBB_balerlaw25_TesterActs lf r k (lpA_balerlaw25_TesterActs lf r fu k)
def kcA_balerlaw25_TesterActs (lf : Nat) (r : RT) : (V→V→V→V→V→M V) × (V→M V) := (fun a b c d e => klg 4 e fun f => kcl r 56 [f, a] fun g => ksg 4 e g fun _ => kbd z85
  [(0, 1, d), (3, 1, bT)] fun f => kcl r 56 [f, a] fun g => kal 85 z85 fun h => ksg 4 h g fun _ => kfa 0 b fun f => kld f fun g => kcl r 26 [g, a] fun i => kal 51 z51
  fun j => ksg 2 j i fun _ => kfa 3 e fun f => (timed (kld f M.ret)).bind fun g => knt g.1 fun i => ifV i ((timed (M.ret undef)).bind fun l => (timed (M.ret undef)).bind
  fun m => (timed (M.ret undef)).bind fun n => (timed (M.ret undef)).bind fun o => (timed (M.ret undef)).bind fun p => (timed (M.ret undef)).bind fun q => (timed (M.ret
  undef)).bind fun s => (timed (M.ret undef)).bind fun t => (timed (M.ret undef)).bind fun u => (timed (M.ret undef)).bind fun v => (timed (M.ret undef)).bind fun w =>
  chkT ((!(clash3 m.2 n.2) && true) && true) (outK [bF])) ((timed (kcl r 48 [c] M.ret)).bind fun l => knt l.1 fun m => ifV m ((timed (M.ret undef)).bind fun n => (timed
  (M.ret undef)).bind fun o => (timed (M.ret undef)).bind fun p => (timed (M.ret undef)).bind fun q => (timed (M.ret undef)).bind fun s => (timed (M.ret undef)).bind fun
  t => (timed (M.ret undef)).bind fun u => (timed (M.ret undef)).bind fun v => (timed (M.ret undef)).bind fun w => (timed (M.ret undef)).bind fun x => chkT ((!(clash3
  n.2 o.2) && true) && true) (outK [bF])) ((timed (kcl r 49 [c] M.ret)).bind fun n => kfa 1 j fun o => (timed (kld o M.ret)).bind fun p => kne n.1 p.1 fun q => ifV q
  ((timed (M.ret undef)).bind fun s => (timed (M.ret undef)).bind fun t => (timed (M.ret undef)).bind fun u => (timed (M.ret undef)).bind fun v => (timed (M.ret
  undef)).bind fun w => (timed (M.ret undef)).bind fun x => (timed (M.ret undef)).bind fun y => (timed (M.ret undef)).bind fun z => chkT ((!(clash3 n.2 p.2) && true) &&
  true) (outK [bF])) ((timed (kcl r 49 [d] M.ret)).bind fun s => (timed (kcl r 49 [c] M.ret)).bind fun t => kne s.1 t.1 fun u => ifV u ((timed (M.ret undef)).bind fun v
  => (timed (M.ret undef)).bind fun w => (timed (M.ret undef)).bind fun x => (timed (M.ret undef)).bind fun y => (timed (M.ret undef)).bind fun z => (timed (M.ret
  undef)).bind fun A => chkT ((!(clash3 n.2 p.2) && true) && true) (outK [bF])) ((timed (kcl r 57 [c] M.ret)).bind fun v => (timed (kcl r 57 [d] M.ret)).bind fun w =>
  kne v.1 w.1 fun x => ifV x ((timed (M.ret undef)).bind fun y => (timed (M.ret undef)).bind fun z => (timed (M.ret undef)).bind fun A => (timed (M.ret undef)).bind fun
  B => chkT ((!(clash3 n.2 p.2) && true) && true) (outK [bF])) (kfa 2 e fun y => (timed (kld y M.ret)).bind fun z => kfa 2 h fun A => (timed (kld A M.ret)).bind fun B =>
  kne z.1 B.1 fun C => ifV C ((timed (M.ret undef)).bind fun D => (timed (M.ret undef)).bind fun E => chkT ((!(clash3 n.2 p.2) && true) && true) (outK [bF])) ((timed
  (kcl r 50 [c] M.ret)).bind fun D => (timed (kcl r 50 [d] M.ret)).bind fun E => kne D.1 E.1 fun G => chkT ((!(clash3 n.2 p.2) && true) && true) (ifV G (outK [bF]) (kfa
  1 j fun f => kld f fun g => kne g (ii 0) fun i => ifV i (kfa 2 e fun f => kld f fun g => keq g (Value.string { data := #[] }) fun l => ifV l (kcl r 43 [] fun m => outK
  [m]) (outK [bF])) (kfa 2 e fun f => (timed (kld f M.ret)).bind fun g => kfa 0 j fun l => (timed (kld l M.ret)).bind fun m => klx m.1 fun n => (timed (kcl r 52 [n]
  M.ret)).bind fun o => keq g.1 o.1 fun p => ifV p ((timed (kcl r 50 [c] M.ret)).bind fun q => kfa 0 j fun s => (timed (kld s M.ret)).bind fun t => klx t.1 fun u => keq
  q.1 u fun v => ifV v ((timed (kcl r 47 [c, (ii 1)] M.ret)).bind fun w => keq w.1 (ii 0) fun x => ifV x ((timed (kcl r 43 [] M.ret)).bind fun y => chkT ((!(clash3 g.2
  o.2) && true) && ((!(clash3 q.2 t.2) && true) && true)) (outK [y.1])) ((timed (M.ret undef)).bind fun y => chkT ((!(clash3 g.2 o.2) && true) && ((!(clash3 q.2 t.2) &&
  true) && true)) (outK [bF]))) ((timed (M.ret undef)).bind fun w => (timed (M.ret undef)).bind fun x => chkT ((!(clash3 g.2 o.2) && true) && ((!(clash3 q.2 t.2) &&
  true) && true)) (outK [bF]))) ((timed (M.ret undef)).bind fun q => (timed (M.ret undef)).bind fun s => (timed (M.ret undef)).bind fun t => (timed (M.ret undef)).bind
  fun u => chkT ((!(clash3 g.2 o.2) && true) && ((!(clash3 q.2 s.2) && true) && true)) (outK [bF]))))))))))), fun a => outK [a])
def b_balerlaw25_TesterActs (lf : Nat) (r : RT) (a b c : V) : M V := kbx 77 a fun d => klg 2 d fun e => kcl r 42 [e] fun f => knt f fun g => ifV g (kcl r 43 [] fun e =>
  outK [e]) (kfa 0 d fun h => kld h fun i => kgr i (ii 200) fun j => ifV j (kcl r 43 [] fun e => outK [e]) (klx b fun l => kgr l (ii 200) fun m => ifV m (kcl r 43 [] fun
  e => outK [e]) (kln c fun n => kgr n (ii 30) fun o => ifV o (kcl r 43 [] fun e => outK [e]) (kfa 0 d fun e => kld e fun f => kfa 1 d fun g => kld g fun h => kcl r 44
  [f, h] fun i => kex i 0 fun j => kex i 1 fun l => kfa 0 d fun e => kld e fun f => kcl r 44 [f, (ii 1048576)] fun g => kex g 0 fun h => kex g 1 fun i => kne l (ii 0)
  fun e => ifV e (outK [bF]) (kne i (ii 0) fun f => ifV f (outK [bF]) (kbd z85 [(0, 1, j), (3, 1, bT)] fun e => kal 85 z85 fun g => ksg 4 g e fun _ => kfa 0 d fun e =>
  kld e fun m => kfa 1 d fun n => kld n fun p => kcl r 53 [m, p] fun q => lpA_balerlaw25_TesterActs lf r lf (kcA_balerlaw25_TesterActs lf r) a b c d bF j l h i g q o f (ii 0)))))))
theorem lqB_balerlaw25_TesterActs {lf : Nat} {r : RT} (K : KT) : ∀ fu, lpB_balerlaw25_TesterActs lf r fu ((fun a b c d e f g h i j l m n o => K (.exit 2) (zp [0, 1, 2,
  3, 6, 7, 8, 9, 10, 11, 12, 34, 55, 63] [a, b, c, d, e, f, g, h, i, j, l, m, n, o]), fun a => K .ret (zp [6] [a]))) = fun a b c d e f g h i j l m n o p q s t => loopK
  (cQ 11 (pb 18 39295) lf r) sB_balerlaw25_TesterActs fu (zp sB_balerlaw25_TesterActs [a, b, c, d, e, f, g, h, i, j, l, m, n, o, p, q, s, t]) K
  | 0 => by funext a b c d e f g h i j l m n o p q s t; kernel_rfl
  | fu + 1 => by
    have ih := lqB_balerlaw25_TesterActs (lf := lf) (r := r) K fu
    funext a b c d e f g h i j l m n o p q s t
    rw [lpB_balerlaw25_TesterActs]
    simp only [ih]
    kernel_rfl
theorem kqB_balerlaw25_TesterActs {lf : Nat} {r : RT} (K : KT) (fu : Nat) : KBB_balerlaw25_TesterActs lf r ((fun a b c d e => K (.exit 0) (zp [1, 3, 7, 9, 11] [a, b, c,
  d, e]), fun a => K .ret (zp [6] [a]))) (fun a b c d e f g h i j l m n o => loopK (cQ 11 (pb 11 383) lf r) sA_balerlaw25_TesterActs fu (zp sA_balerlaw25_TesterActs [a,
  b, c, d, e, f, g, h, i, j, l, m, n, o]) K) = ((fun a b c d e f g h i j l m n o => (iK 11 (pb 11 383) (pb 6 19) sA_balerlaw25_TesterActs fu K lf r) (.exit 2) (zp [0, 1,
  2, 3, 6, 7, 8, 9, 10, 11, 12, 34, 55, 63] [a, b, c, d, e, f, g, h, i, j, l, m, n, o]), fun a => (iK 11 (pb 11 383) (pb 6 19) sA_balerlaw25_TesterActs fu K lf r) .ret (zp [6] [a]))) := by kernel_rfl
theorem lqA_balerlaw25_TesterActs {lf : Nat} {r : RT} (K : KT) : ∀ fu, lpA_balerlaw25_TesterActs lf r fu ((fun a b c d e => K (.exit 0) (zp [1, 3, 7, 9, 11] [a, b, c, d,
  e]), fun a => K .ret (zp [6] [a]))) = fun a b c d e f g h i j l m n o => loopK (cQ 11 (pb 11 383) lf r) sA_balerlaw25_TesterActs fu (zp sA_balerlaw25_TesterActs [a, b, c, d, e, f, g, h, i, j, l, m, n, o]) K
  | 0 => by funext a b c d e f g h i j l m n o; kernel_rfl
  | fu + 1 => by
    have ih := lqA_balerlaw25_TesterActs (lf := lf) (r := r) K fu
    funext a b c d e f g h i j l m n o
    rw [lpA_balerlaw25_TesterActs]
    simp only [ih, kqB_balerlaw25_TesterActs, lqB_balerlaw25_TesterActs]
    kernel_rfl
theorem kqA_balerlaw25_TesterActs {lf : Nat} {r : RT} : kcA_balerlaw25_TesterActs lf r = ((fun a b c d e => (tK 11 (pb 10 383) lf r) (.exit 0) (zp [1, 3, 7, 9, 11] [a,
  b, c, d, e]), fun a => (tK 11 (pb 10 383) lf r) .ret (zp [6] [a]))) := by kernel_rfl
theorem st_balerlaw25_TesterActs {lf : Nat} {r : RT} {a b c : V} : evStep Tryz.prog gt lf r 11 #[a, b, c] = inside (b_balerlaw25_TesterActs lf r a b c) := by 
  unfold b_balerlaw25_TesterActs
  simp only [kqA_balerlaw25_TesterActs, lqA_balerlaw25_TesterActs]
  kernel_rfl

/- balerlaw47_nothing -/
def b_balerlaw47_nothing (lf : Nat) (r : RT)  : M V := kcl r 24 [(ii 9), (ii 24), (Value.string { data := #[] })] fun a => kcl r 13 [(ii 24), a] fun b => kex b 0 fun c
  => kex b 1 fun d => kcl r 18 [c] fun a => kex a 0 fun b => kex a 1 fun e => kcl r 21 [c] fun a => kal 43 z43 fun f => ksg 5 f a fun _ => keq d (ii 0) fun a => ifV a
  (keq e (ii 0) fun g => ifV g (keq b (Value.string { data := #[98, 101, 103, 105, 110, 32, 57, 32, 48, 32, 51, 50, 10, 101, 110, 100, 32, 48, 48, 48, 48, 48, 48, 48,
  48, 32, 51, 50, 32, 49, 49, 50, 10] }) fun h => ifV h (klg 5 f fun i => kbd z43 [(0, 1, (ii 1)), (4, 1, (ii 112))] fun j => kge [0, 0, 0, 0, 0] i j fun l => kpk l bT
  bF fun m => outK [m]) (outK [bF])) (outK [bF])) (outK [bF])
theorem st_balerlaw47_nothing {lf : Nat} {r : RT}  : evStep Tryz.prog gt lf r 12 #[] = inside (b_balerlaw47_nothing lf r) := by kernel_rfl

/- inspect_Parts -/
def lpA_inspect_Parts (lf : Nat) (r : RT) : Nat→(V→V→M V)→V→V→V→V→V→V→V→V→M V
  | 0, _, _, _, _, _, _, _, _, _ => .fail
  | fu + 1, k, a, b, c, d, e, f, g, h => kcl r 60 [g] fun i => kex i 0 fun j => kex i 1 fun l => ifV j (knn g fun i => kfa 3 i fun m => kld m fun n => k n l) (lpA_inspect_Parts lf r fu k a b c d e f g h)
def sA_inspect_Parts : List Nat := [0, 1, 4, 5, 6, 7, 8, 17]
def kcA_inspect_Parts (lf : Nat) (r : RT) : (V→V→M V) := fun a b => outK [a, b]
def b_inspect_Parts (lf : Nat) (r : RT) (a b : V) : M V := kcl r 58 [a] fun c => kex c 0 fun d => kex c 1 fun e => kne e (ii 0) fun c => ifV c (outK [nS, e]) (kcl r 59
  [b] fun f => kbd z98 [(0, 1, b), (1, 1, f), (2, 1, d)] fun g => kbx 98 g fun h => lpA_inspect_Parts lf r lf (kcA_inspect_Parts lf r) a b nS (ii 0) d e h c)
theorem lqA_inspect_Parts {lf : Nat} {r : RT} (K : KT) : ∀ fu, lpA_inspect_Parts lf r fu (fun a b => K .ret (zp [4, 5] [a, b])) = fun a b c d e f g h => loopK (cQ 13 (pb
  6 15) lf r) sA_inspect_Parts fu (zp sA_inspect_Parts [a, b, c, d, e, f, g, h]) K
  | 0 => by funext a b c d e f g h; kernel_rfl
  | fu + 1 => by
    have ih := lqA_inspect_Parts (lf := lf) (r := r) K fu
    funext a b c d e f g h
    rw [lpA_inspect_Parts]
    simp only [ih]
    kernel_rfl
theorem kqA_inspect_Parts {lf : Nat} {r : RT} : kcA_inspect_Parts lf r = (fun a b => (tK 13 (pb 5 15) lf r) .ret (zp [4, 5] [a, b])) := by kernel_rfl
theorem st_inspect_Parts {lf : Nat} {r : RT} {a b : V} : evStep Tryz.prog gt lf r 13 #[a, b] = inside (b_inspect_Parts lf r a b) := by 
  unfold b_inspect_Parts
  simp only [kqA_inspect_Parts, lqA_inspect_Parts]
  kernel_rfl

/- balerref21_Unit -/
def b_balerref21_Unit (lf : Nat) (r : RT) (a : V) : M V := kgq a (ii 24) fun b => ifV b (klq a (ii 100000) fun c => outK [c]) (outK [bF])
theorem st_balerref21_Unit {lf : Nat} {r : RT} {a : V} : evStep Tryz.prog gt lf r 14 #[a] = inside (b_balerref21_Unit lf r a) := by kernel_rfl

/- balerref47_Parts -/
def lpA_balerref47_Parts (lf : Nat) (r : RT) : Nat→((V→M V) × (V→M V))→V→V→V→V→V→V→V→V→M V
  | 0, _, _, _, _, _, _, _, _, _ => .fail
  | fu + 1, k, a, b, c, d, e, f, g, h => kls h g fun i => ifV i (ksx d (some f) none fun j => kcl r 62 [j] fun l => knt l fun m => ifV m (k.2 e) (kad f (ii 24) fun j =>
   kad f (ii 32) fun l => ksx d (some j) (some l) fun n => kcl r 63 [n] fun o => kcv .i64 o fun p => ksb p (ii 48) fun q => kad f (ii 32) fun j => kbd z34 [(0, 1, (ii
   1)), (1, 1, q), (2, 1, f), (3, 1, j)] fun l => kb1 34 8 l fun n => kap 34 8 e n fun o => kad f (ii 32) fun e => kml q a fun j => kcl r 64 [d, e, j] fun l => kap 34 8
   o l fun e => kln l fun j => keq j (ii 0) fun n => ifV n (k.2 e) (kln l fun o => ksb o (ii 1) fun p => kiy 8 l p fun s => kfa 0 s fun t => kld t fun u => kne u (ii 3)
   fun v => ifV v (k.2 e) (kln l fun j => ksb j (ii 1) fun n => kiy 8 l n fun o => kfa 3 o fun p => kld p fun s => kad s (ii 7) fun t => kqu t (ii 8) fun u => kml u (ii
   8) fun w => kad h (ii 1) fun f => lpA_balerref47_Parts lf r fu k a b c d e w g f)))) (k.1 e)
def sA_balerref47_Parts : List Nat := [0, 1, 4, 5, 6, 7, 13, 14]
def kcA_balerref47_Parts (lf : Nat) (r : RT) : (V→M V) × (V→M V) := (fun a => outK [a], fun a => outK [a])
def b_balerref47_Parts (lf : Nat) (r : RT) (a b : V) : M V := kcl r 61 [b] fun c => klx b fun d => lpA_balerref47_Parts lf r lf (kcA_balerref47_Parts lf r) a b nS c nS (ii 0) d (ii 0)
theorem lqA_balerref47_Parts {lf : Nat} {r : RT} (K : KT) : ∀ fu, lpA_balerref47_Parts lf r fu ((fun a => K (.exit 0) (zp [6] [a]), fun a => K .ret (zp [4] [a]))) = fun
  a b c d e f g h => loopK (cQ 15 (pb 8 47) lf r) sA_balerref47_Parts fu (zp sA_balerref47_Parts [a, b, c, d, e, f, g, h]) K
  | 0 => by funext a b c d e f g h; kernel_rfl
  | fu + 1 => by
    have ih := lqA_balerref47_Parts (lf := lf) (r := r) K fu
    funext a b c d e f g h
    rw [lpA_balerref47_Parts]
    simp only [ih]
    kernel_rfl
theorem kqA_balerref47_Parts {lf : Nat} {r : RT} : kcA_balerref47_Parts lf r = ((fun a => (tK 15 (pb 7 47) lf r) (.exit 0) (zp [6] [a]), fun a => (tK 15 (pb 7 47) lf r) .ret (zp [4] [a]))) := by kernel_rfl
theorem st_balerref47_Parts {lf : Nat} {r : RT} {a b : V} : evStep Tryz.prog gt lf r 15 #[a, b] = inside (b_balerref47_Parts lf r a b) := by 
  unfold b_balerref47_Parts
  simp only [kqA_balerref47_Parts, lqA_balerref47_Parts]
  kernel_rfl

/- balerref47_Err -/
def b_balerref47_Err (lf : Nat) (r : RT) (a b : V) : M V := kcl r 26 [a, b] fun c => kfd 1 c fun d => outK [d]
theorem st_balerref47_Err {lf : Nat} {r : RT} {a b : V} : evStep Tryz.prog gt lf r 16 #[a, b] = inside (b_balerref47_Err lf r a b) := by kernel_rfl

/- balerlaw47_ref -/
def b_balerlaw47_ref (lf : Nat) (r : RT) (a : V) : M V := kbx 33 a fun b => kal 34 z34 fun c => kfa 0 b fun d => kld d fun e => kfa 1 b fun f => kld f fun g => kfa 2 b
  fun h => kld h fun i => kfa 3 b fun j => kld j fun l => kfa 4 b fun m => kld m fun n => kfa 5 b fun o => kld o fun p => kfa 6 b fun q => kld q fun s => kfa 7 b fun t
  => kld t fun u => kbd z34 [(0, 1, e), (1, 1, g), (2, 1, i), (3, 1, l), (4, 1, n), (5, 1, p), (6, 1, s), (7, 1, u)] fun v => ksg 8 c v fun _ => klg 8 c fun a => outK [a]
theorem st_balerlaw47_ref {lf : Nat} {r : RT} {a : V} : evStep Tryz.prog gt lf r 17 #[a] = inside (b_balerlaw47_ref lf r a) := by kernel_rfl

/- inspect_Text -/
def lpA_inspect_Text (lf : Nat) (r : RT) : Nat→((V→M V) × (V→V→M V))→V→V→V→V→V→V→V→M V
  | 0, _, _, _, _, _, _, _, _ => .fail
  | fu + 1, k, a, b, c, d, e, f, g => kls g f fun h => ifV h (kiy 8 e g fun i => klg 8 i fun j => kal 33 z33 fun l => ksg 8 l j fun _ => klg 8 l fun i => kcl r 19 [i]
   fun j => kex j 0 fun m => kex j 1 fun n => kne n (ii 0) fun i => ifV i (k.2 (Value.string { data := #[] }) n) (kad m (Value.string { data := #[10] }) fun j => kcl r
   65 [d, j] fun o => kad g (ii 1) fun j => lpA_inspect_Text lf r fu k a b c d e f j)) (k.1 d)
def sA_inspect_Text : List Nat := [0, 2, 3, 4, 9, 10, 11]
def kcA_inspect_Text (lf : Nat) (r : RT) : (V→M V) × (V→V→M V) := (fun a => kcl r 66 [a] fun b => outK [b, (ii 0)], fun a b => outK [a, b])
def b_inspect_Text (lf : Nat) (r : RT) (a : V) : M V := kal 107 z107 fun b => kln a fun c => lpA_inspect_Text lf r lf (kcA_inspect_Text lf r) a (Value.string { data := #[] }) (ii 0) b a c (ii 0)
theorem lqA_inspect_Text {lf : Nat} {r : RT} (K : KT) : ∀ fu, lpA_inspect_Text lf r fu ((fun a => K (.exit 0) (zp [4] [a]), fun a b => K .ret (zp [2, 3] [a, b]))) = fun
  a b c d e f g => loopK (cQ 18 (pb 6 11) lf r) sA_inspect_Text fu (zp sA_inspect_Text [a, b, c, d, e, f, g]) K
  | 0 => by funext a b c d e f g; kernel_rfl
  | fu + 1 => by
    have ih := lqA_inspect_Text (lf := lf) (r := r) K fu
    funext a b c d e f g
    rw [lpA_inspect_Text]
    simp only [ih]
    kernel_rfl
theorem kqA_inspect_Text {lf : Nat} {r : RT} : kcA_inspect_Text lf r = ((fun a => (tK 18 (pb 5 11) lf r) (.exit 0) (zp [4] [a]), fun a b => (tK 18 (pb 5 11) lf r) .ret (zp [2, 3] [a, b]))) := by kernel_rfl
theorem st_inspect_Text {lf : Nat} {r : RT} {a : V} : evStep Tryz.prog gt lf r 18 #[a] = inside (b_inspect_Text lf r a) := by 
  unfold b_inspect_Text
  simp only [kqA_inspect_Text, lqA_inspect_Text]
  kernel_rfl

/- inspect_Line -/
def b_inspect_Line (lf : Nat) (r : RT) (a : V) : M V := kbx 33 a fun b => kfa 1 b fun c => kld c fun d => kfa 2 b fun e => kld e fun f => kfa 3 b fun g => kld g fun h =>
  kfa 5 b fun i => kld i fun j => kfa 6 b fun l => kld l fun m => kfa 7 b fun n => kld n fun o => km6 d f h j m o fun p => kls p (ii 0) fun q => ifV q (outK
  [(Value.string { data := #[] }), (ii 1)]) (kfa 0 b fun c => kld c fun d => keq d (ii 1) fun c => ifV c (kfa 1 b fun e => kld e fun f => kfa 2 b fun g => kld g fun h =>
  kfa 3 b fun i => kld i fun j => kbs 3 (catV [(ii 0)] 3) 3 [(0, 1, f), (1, 1, h), (2, 1, j)] fun l => kcl r 67 [(Value.string { data := #[98, 101, 103, 105, 110] }), l]
  fun m => outK [m, (ii 0)]) (keq d (ii 2) fun e => ifV e (kfa 4 b fun f => (timed (kld f M.ret)).bind fun g => (timed (kcl r 68 [g.1] M.ret)).bind fun h => kad
  (Value.string { data := #[98, 108, 111, 99, 107, 32] }) h.1 fun i => kfa 5 b fun j => (timed (kld j M.ret)).bind fun l => kfa 6 b fun m => (timed (kld m M.ret)).bind
  fun n => kfa 7 b fun o => (timed (kld o M.ret)).bind fun p => kfa 2 b fun s => (timed (kld s M.ret)).bind fun t => kfa 3 b fun u => (timed (kld u M.ret)).bind fun v =>
  (timed (kbs 3 (catV [(ii 0)] 5) 5 [(0, 1, l.1), (1, 1, n.1), (2, 1, p.1), (3, 1, t.1), (4, 1, v.1)] M.ret)).bind fun w => (timed (kcl r 67 [i, w.1] M.ret)).bind fun x
  => chkT ((!(clash3 h.2 l.2) && (!(clash3 h.2 n.2) && (!(clash3 h.2 p.2) && (!(clash3 h.2 t.2) && (!(clash3 h.2 v.2) && (!(clash3 h.2 w.2) && true)))))) && true) (outK
  [x.1, (ii 0)])) (keq d (ii 3) fun f => ifV f (kfa 4 b fun g => (timed (kld g M.ret)).bind fun h => (timed (kcl r 68 [h.1] M.ret)).bind fun i => kad (Value.string {
  data := #[101, 110, 100, 32] }) i.1 fun j => kfa 2 b fun l => (timed (kld l M.ret)).bind fun m => kfa 3 b fun n => (timed (kld n M.ret)).bind fun o => (timed (kbs 3
  (catV [(ii 0)] 2) 2 [(0, 1, m.1), (1, 1, o.1)] M.ret)).bind fun p => (timed (kcl r 67 [j, p.1] M.ret)).bind fun s => chkT ((!(clash3 i.2 m.2) && (!(clash3 i.2 o.2) &&
  (!(clash3 i.2 p.2) && true))) && true) (outK [s.1, (ii 0)])) (outK [(Value.string { data := #[] }), (ii 1)]))))
theorem st_inspect_Line {lf : Nat} {r : RT} {a : V} : evStep Tryz.prog gt lf r 19 #[a] = inside (b_inspect_Line lf r a) := by kernel_rfl

/- balerref47_Line -/
def lpA_balerref47_Line (lf : Nat) (r : RT) : Nat→((V→M V) × (V→M V))→V→V→V→V→V→V→M V
  | 0, _, _, _, _, _, _, _ => .fail
  | fu + 1, k, a, b, c, d, e, f => kls f e fun g => ifV g (kix d f fun h => kld h fun i => kls i (ii 0) fun h => ifV h (k.2 (Value.string { data := #[] })) (kad f (ii 1)
   fun j => lpA_balerref47_Line lf r fu k a b c d e j)) (k.1 b)
def sA_balerref47_Line : List Nat := [0, 1, 2, 17, 18, 19]
def kcA_balerref47_Line (lf : Nat) (r : RT) : (V→M V) × (V→M V) := (fun a => kfa 0 a fun b => kld b fun c => keq c (ii 1) fun d => ifV d (kfa 1 a fun b => kld b fun c =>
  kfa 2 a fun e => kld e fun f => kfa 3 a fun g => kld g fun h => kbs 3 (catV [(ii 0)] 3) 3 [(0, 1, c), (1, 1, f), (2, 1, h)] fun i => kcl r 69 [(Value.string { data :=
  #[98, 101, 103, 105, 110] }), i] fun j => outK [j]) (kfa 0 a fun b => kld b fun c => keq c (ii 2) fun e => ifV e (kfa 4 a fun b => (timed (kld b M.ret)).bind fun c =>
  (timed (kcl r 70 [c.1] M.ret)).bind fun f => kad (Value.string { data := #[98, 108, 111, 99, 107, 32] }) f.1 fun g => kfa 5 a fun h => (timed (kld h M.ret)).bind fun i
  => kfa 6 a fun j => (timed (kld j M.ret)).bind fun l => kfa 7 a fun m => (timed (kld m M.ret)).bind fun n => kfa 2 a fun o => (timed (kld o M.ret)).bind fun p => kfa 3
  a fun q => (timed (kld q M.ret)).bind fun s => (timed (kbs 3 (catV [(ii 0)] 5) 5 [(0, 1, i.1), (1, 1, l.1), (2, 1, n.1), (3, 1, p.1), (4, 1, s.1)] M.ret)).bind fun t
  => (timed (kcl r 69 [g, t.1] M.ret)).bind fun u => chkT ((!(clash3 f.2 i.2) && (!(clash3 f.2 l.2) && (!(clash3 f.2 n.2) && (!(clash3 f.2 p.2) && (!(clash3 f.2 s.2) &&
  (!(clash3 f.2 t.2) && true)))))) && true) (outK [u.1])) (kfa 0 a fun b => kld b fun c => keq c (ii 3) fun f => ifV f (kfa 4 a fun b => (timed (kld b M.ret)).bind fun c
  => (timed (kcl r 70 [c.1] M.ret)).bind fun g => kad (Value.string { data := #[101, 110, 100, 32] }) g.1 fun h => kfa 2 a fun i => (timed (kld i M.ret)).bind fun j =>
  kfa 3 a fun l => (timed (kld l M.ret)).bind fun m => (timed (kbs 3 (catV [(ii 0)] 2) 2 [(0, 1, j.1), (1, 1, m.1)] M.ret)).bind fun n => (timed (kcl r 69 [h, n.1]
  M.ret)).bind fun o => chkT ((!(clash3 g.2 j.2) && (!(clash3 g.2 m.2) && (!(clash3 g.2 n.2) && true))) && true) (outK [o.1])) (outK [(Value.string { data := #[] })]))), fun a => outK [a])
def b_balerref47_Line (lf : Nat) (r : RT) (a : V) : M V := kbx 34 a fun b => kfa 1 b fun c => kld c fun d => kfa 2 b fun e => kld e fun f => kfa 3 b fun g => kld g fun h
  => kfa 5 b fun i => kld i fun j => kfa 6 b fun l => kld l fun m => kfa 7 b fun n => kld n fun o => kbs 3 (catV [(ii 0)] 6) 6 [(0, 1, d), (1, 1, f), (2, 1, h), (3, 1,
  j), (4, 1, m), (5, 1, o)] fun p => kln p fun q => lpA_balerref47_Line lf r lf (kcA_balerref47_Line lf r) a b (Value.string { data := #[] }) p q (ii 0)
theorem lqA_balerref47_Line {lf : Nat} {r : RT} (K : KT) : ∀ fu, lpA_balerref47_Line lf r fu ((fun a => K (.exit 0) (zp [1] [a]), fun a => K .ret (zp [2] [a]))) = fun a
  b c d e f => loopK (cQ 20 (pb 5 5) lf r) sA_balerref47_Line fu (zp sA_balerref47_Line [a, b, c, d, e, f]) K
  | 0 => by funext a b c d e f; kernel_rfl
  | fu + 1 => by
    have ih := lqA_balerref47_Line (lf := lf) (r := r) K fu
    funext a b c d e f
    rw [lpA_balerref47_Line]
    simp only [ih]
    kernel_rfl
theorem kqA_balerref47_Line {lf : Nat} {r : RT} : kcA_balerref47_Line lf r = ((fun a => (tK 20 (pb 4 5) lf r) (.exit 0) (zp [1] [a]), fun a => (tK 20 (pb 4 5) lf r) .ret (zp [2] [a]))) := by kernel_rfl
theorem st_balerref47_Line {lf : Nat} {r : RT} {a : V} : evStep Tryz.prog gt lf r 20 #[a] = inside (b_balerref47_Line lf r a) := by 
  unfold b_balerref47_Line
  simp only [kqA_balerref47_Line, lqA_balerref47_Line]
  kernel_rfl

/- inspect_Count -/
def lpA_inspect_Count (lf : Nat) (r : RT) : Nat→(V→V→V→M V)→V→V→V→V→V→V→M V
  | 0, _, _, _, _, _, _, _ => .fail
  | fu + 1, k, a, b, c, d, e, f => kls f e fun g => ifV g (kiy 8 d f fun h => klg 8 h fun i => kal 33 z33 fun j => ksg 8 j i fun _ => kfa 0 j fun h => kld h fun i => keq
   i (ii 2) fun h => (fun l => ifV h (kfa 1 c fun m => kld m fun n => kad n (ii 1) fun o => kfa 1 c fun p => kst p o fun _ => kfa 2 c fun m => kld m fun n => kfa 6 j fun
   o => kld o fun p => kcl r 71 [n, p] fun q => kfa 2 c fun s => kst s q fun _ => kfa 3 c fun m => kld m fun n => kfa 7 j fun o => kld o fun p => kcl r 71 [n, p] fun q
   => kfa 3 c fun s => kst s q fun _ => l) (keq i (ii 3) fun m => ifV m (kfa 0 c fun n => kld n fun o => kad o (ii 1) fun p => kfa 0 c fun q => kst q p fun _ => l) (l)))
   (kad f (ii 1) fun l => lpA_inspect_Count lf r fu k a b c d e l)) (k a b c)
def sA_inspect_Count : List Nat := [0, 2, 3, 6, 7, 8]
def kcA_inspect_Count (lf : Nat) (r : RT) : (V→V→V→M V) := fun a b c => kln a fun d => kgr d (ii 0) fun e => ifV e (kln a fun f => ksb f (ii 1) fun g => kiy 8 a g fun h
  => kfa 3 h fun i => kld i fun j => kiy 8 a (ii 0) fun l => kfa 2 l fun m => kld m fun n => kgr j n fun o => ifV o (kln a fun d => ksb d (ii 1) fun e => kiy 8 a e fun f
  => kfa 3 f fun g => kld g fun h => kiy 8 a (ii 0) fun i => kfa 2 i fun j => kld j fun l => ksb h l fun m => kfa 4 c fun n => kst n m fun _ => klg 5 c fun d => ksg 5 b
  d fun _ => klg 5 b fun a => outK [a]) (klg 5 c fun d => ksg 5 b d fun _ => klg 5 b fun a => outK [a])) (klg 5 c fun d => ksg 5 b d fun _ => klg 5 b fun a => outK [a])
def b_inspect_Count (lf : Nat) (r : RT) (a : V) : M V := kal 43 z43 fun b => kal 43 z43 fun c => kln a fun d => lpA_inspect_Count lf r lf (kcA_inspect_Count lf r) a b c a d (ii 0)
theorem lqA_inspect_Count {lf : Nat} {r : RT} (K : KT) : ∀ fu, lpA_inspect_Count lf r fu (fun a b c => K (.exit 0) (zp [0, 2, 3] [a, b, c])) = fun a b c d e f => loopK
  (cQ 21 (pb 6 11) lf r) sA_inspect_Count fu (zp sA_inspect_Count [a, b, c, d, e, f]) K
  | 0 => by funext a b c d e f; kernel_rfl
  | fu + 1 => by
    have ih := lqA_inspect_Count (lf := lf) (r := r) K fu
    funext a b c d e f
    rw [lpA_inspect_Count]
    simp only [ih]
    kernel_rfl
theorem kqA_inspect_Count {lf : Nat} {r : RT} : kcA_inspect_Count lf r = (fun a b c => (tK 21 (pb 5 11) lf r) (.exit 0) (zp [0, 2, 3] [a, b, c])) := by kernel_rfl
theorem st_inspect_Count {lf : Nat} {r : RT} {a : V} : evStep Tryz.prog gt lf r 21 #[a] = inside (b_inspect_Count lf r a) := by 
  unfold b_inspect_Count
  simp only [kqA_inspect_Count, lqA_inspect_Count]
  kernel_rfl

/- balerlaw47_most -/
def b_balerlaw47_most (lf : Nat) (r : RT) (a : V) : M V := kma a (ii 0) fun b => kmi b (ii 1099511627776) fun c => outK [c]
theorem st_balerlaw47_most {lf : Nat} {r : RT} {a : V} : evStep Tryz.prog gt lf r 22 #[a] = inside (b_balerlaw47_most lf r a) := by kernel_rfl

/- balerref21_Level -/
def b_balerref21_Level (lf : Nat) (r : RT) (a : V) : M V := kgq a (ii 1) fun b => ifV b (klq a (ii 9) fun c => outK [c]) (outK [bF])
theorem st_balerref21_Level {lf : Nat} {r : RT} {a : V} : evStep Tryz.prog gt lf r 23 #[a] = inside (b_balerref21_Level lf r a) := by kernel_rfl

/- balerref21_With -/
def lpA_balerref21_With (lf : Nat) (r : RT) : Nat→(V→V→M V)→V→V→V→V→V→V→V→V→V→M V
  | 0, _, _, _, _, _, _, _, _, _, _ => .fail
  | fu + 1, k, a, b, c, d, e, f, g, h, i => kls i h fun j => ifV j (kiy 2 g i fun l => klg 2 l fun m => kal 120 z120 fun n => ksg 2 n m fun _ => kad e (Value.string {
   data := #[48, 48, 49, 49, 48, 48, 48, 49, 48, 49, 48, 48, 48, 48, 48, 49, 48, 49, 48, 49, 49, 48, 48, 49, 48, 48, 49, 48, 48, 49, 49, 48, 48, 49, 48, 49, 48, 48, 49,
   49, 48, 49, 48, 49, 49, 48, 48, 49] }) fun l => kfa 0 n fun m => (timed (kld m M.ret)).bind fun o => (timed (klg 2 n M.ret)).bind fun p => (timed (kcl r 75 [p.1]
   M.ret)).bind fun q => (timed (kcl r 74 [o.1, q.1] M.ret)).bind fun s => kad l s.1 fun t => chkT ((!(clash3 o.2 q.2) && true) && true) (klg 2 n fun e => kcl r 75 [e]
   fun l => kb1 31 1 l fun m => kap 31 1 f m fun o => kad i (ii 1) fun e => lpA_balerref21_With lf r fu k a b c d t o g h e)) (k e f)
def sA_balerref21_With : List Nat := [0, 1, 2, 6, 7, 8, 18, 19, 20]
def kcA_balerref21_With (lf : Nat) (r : RT) : (V→V→M V) := fun a b => kcl r 77 [b] fun c => kad a c fun d => kcl r 76 [d] fun e => outK [e]
def b_balerref21_With (lf : Nat) (r : RT) (a b c : V) : M V := kcl r 72 [a] fun d => kml a b fun e => ksb e (ii 19) fun f => kcl r 73 [c, f] fun g => kln g fun h =>
  lpA_balerref21_With lf r lf (kcA_balerref21_With lf r) a b c (Value.string { data := #[] }) d nS g h (ii 0)
theorem lqA_balerref21_With {lf : Nat} {r : RT} (K : KT) : ∀ fu, lpA_balerref21_With lf r fu (fun a b => K (.exit 0) (zp [7, 8] [a, b])) = fun a b c d e f g h i => loopK
  (cQ 24 (pb 7 23) lf r) sA_balerref21_With fu (zp sA_balerref21_With [a, b, c, d, e, f, g, h, i]) K
  | 0 => by funext a b c d e f g h i; kernel_rfl
  | fu + 1 => by
    have ih := lqA_balerref21_With (lf := lf) (r := r) K fu
    funext a b c d e f g h i
    rw [lpA_balerref21_With]
    simp only [ih]
    kernel_rfl
theorem kqA_balerref21_With {lf : Nat} {r : RT} : kcA_balerref21_With lf r = (fun a b => (tK 24 (pb 6 23) lf r) (.exit 0) (zp [7, 8] [a, b])) := by kernel_rfl
theorem st_balerref21_With {lf : Nat} {r : RT} {a b c : V} : evStep Tryz.prog gt lf r 24 #[a, b, c] = inside (b_balerref21_With lf r a b c) := by 
  unfold b_balerref21_With
  simp only [kqA_balerref21_With, lqA_balerref21_With]
  kernel_rfl

/- balerref02_Stream -/
def lpA_balerref02_Stream (lf : Nat) (r : RT) : Nat→(V→M V)→V→V→V→V→V→V→M V
  | 0, _, _, _, _, _, _, _ => .fail
  | fu + 1, k, a, b, c, d, e, f => kls f e fun g => ifV g (kix d f fun h => kld h fun i => kcl r 78 [c, i] fun h => kad f (ii 1) fun c => lpA_balerref02_Stream lf r fu k a b h d e c) (k c)
def sA_balerref02_Stream : List Nat := [0, 2, 3, 6, 7, 8]
def kcA_balerref02_Stream (lf : Nat) (r : RT) : (V→M V) := fun a => outK [a]
def b_balerref02_Stream (lf : Nat) (r : RT) (a : V) : M V := kln a fun b => lpA_balerref02_Stream lf r lf (kcA_balerref02_Stream lf r) a (i3 0) (i3 0) a b (ii 0)
theorem lqA_balerref02_Stream {lf : Nat} {r : RT} (K : KT) : ∀ fu, lpA_balerref02_Stream lf r fu (fun a => K (.exit 0) (zp [3] [a])) = fun a b c d e f => loopK (cQ 25
  (pb 6 11) lf r) sA_balerref02_Stream fu (zp sA_balerref02_Stream [a, b, c, d, e, f]) K
  | 0 => by funext a b c d e f; kernel_rfl
  | fu + 1 => by
    have ih := lqA_balerref02_Stream (lf := lf) (r := r) K fu
    funext a b c d e f
    rw [lpA_balerref02_Stream]
    simp only [ih]
    kernel_rfl
theorem kqA_balerref02_Stream {lf : Nat} {r : RT} : kcA_balerref02_Stream lf r = (fun a => (tK 25 (pb 5 11) lf r) (.exit 0) (zp [3] [a])) := by kernel_rfl
theorem st_balerref02_Stream {lf : Nat} {r : RT} {a : V} : evStep Tryz.prog gt lf r 25 #[a] = inside (b_balerref02_Stream lf r a) := by 
  unfold b_balerref02_Stream
  simp only [kqA_balerref02_Stream, lqA_balerref02_Stream]
  kernel_rfl

/- balerref22_With -/
def lpA_balerref22_With (lf : Nat) (r : RT) : Nat→((V→M V) × (V→M V))→V→V→V→V→V→V→V→V→M V
  | 0, _, _, _, _, _, _, _, _, _ => .fail
  | fu + 1, k, a, b, c, d, e, f, g, h => kls h g fun i => ifV i (ksx d (some f) none fun j => kcl r 79 [j] fun l => kne l (ii 0) fun j => ifV j (kbd z51 [(1, 1, l)] fun
   m => ksg 2 c m fun _ => k.2 c) (kad f (ii 24) fun m => kad f (ii 32) fun n => ksx d (some m) (some n) fun o => kcl r 63 [o] fun p => kcv .i64 p fun q => ksb q (ii 48)
   fun s => kad f (ii 32) fun m => ksx d (some m) none fun n => kml s a fun o => kcl r 80 [n, o] fun p => kal 126 z126 fun q => ksg 3 q p fun _ => kfa 2 q fun m => kld m
   fun n => kne n (ii 0) fun o => ifV o (kfa 2 q fun m => kld m fun n => kbd z51 [(1, 1, n)] fun p => ksg 2 c p fun _ => k.2 c) (kfa 0 q fun m => kld m fun n => kad e n
   fun p => kad f (ii 32) fun e => kfa 1 q fun m => kld m fun n => kad e n fun t => kad t (ii 7) fun u => kqu u (ii 8) fun v => kml v (ii 8) fun w => klx d fun e => keq
   w e fun f => ifV f (kbd z51 [(0, 1, p)] fun e => ksg 2 c e fun _ => k.2 c) (kad h (ii 1) fun e => lpA_balerref22_With lf r fu k a b c d p w g e)))) (k.1 c)
def sA_balerref22_With : List Nat := [0, 1, 4, 5, 6, 7, 15, 16]
def kcA_balerref22_With (lf : Nat) (r : RT) : (V→M V) × (V→M V) := (fun a => kbd z51 [(1, 1, (ii 24))] fun b => ksg 2 a b fun _ => klg 2 a fun b => outK [b], fun a => klg 2 a fun b => outK [b])
def b_balerref22_With (lf : Nat) (r : RT) (a b : V) : M V := kal 51 z51 fun c => kcl r 61 [b] fun d => klx b fun e => kad e (ii 1) fun f => lpA_balerref22_With lf r lf
  (kcA_balerref22_With lf r) a b c d (Value.string { data := #[] }) (ii 0) f (ii 0)
theorem lqA_balerref22_With {lf : Nat} {r : RT} (K : KT) : ∀ fu, lpA_balerref22_With lf r fu ((fun a => K (.exit 0) (zp [4] [a]), fun a => K .ret (zp [4] [a]))) = fun a
  b c d e f g h => loopK (cQ 26 (pb 8 47) lf r) sA_balerref22_With fu (zp sA_balerref22_With [a, b, c, d, e, f, g, h]) K
  | 0 => by funext a b c d e f g h; kernel_rfl
  | fu + 1 => by
    have ih := lqA_balerref22_With (lf := lf) (r := r) K fu
    funext a b c d e f g h
    rw [lpA_balerref22_With]
    simp only [ih]
    kernel_rfl
theorem kqA_balerref22_With {lf : Nat} {r : RT} : kcA_balerref22_With lf r = ((fun a => (tK 26 (pb 7 47) lf r) (.exit 0) (zp [4] [a]), fun a => (tK 26 (pb 7 47) lf r) .ret (zp [4] [a]))) := by kernel_rfl
theorem st_balerref22_With {lf : Nat} {r : RT} {a b : V} : evStep Tryz.prog gt lf r 26 #[a, b] = inside (b_balerref22_With lf r a b) := by 
  unfold b_balerref22_With
  simp only [kqA_balerref22_With, lqA_balerref22_With]
  kernel_rfl

/- balerlaw24_Setup_may -/
def b_balerlaw24_Setup_may (lf : Nat) (r : RT) (a : V) : M V := kbx 55 a fun b => kfa 0 b fun c => kld c fun d => kfa 1 b fun e => kld e fun f => kfa 2 b fun g => kld g
  fun h => kcl r 81 [d, f, h] fun i => outK [i]
theorem st_balerlaw24_Setup_may {lf : Nat} {r : RT} {a : V} : evStep Tryz.prog gt lf r 27 #[a] = inside (b_balerlaw24_Setup_may lf r a) := by kernel_rfl

/- balerlaw24_none -/
def b_balerlaw24_none (lf : Nat) (r : RT)  : M V := kcl r 29 [(ii 24), (ii 64), (ii 9)] fun a => kex a 0 fun b => kex a 1 fun c => kcl r 24 [(ii 1), (ii 24),
  (Value.string { data := #[] })] fun a => kcl r 40 [b, a] fun d => kcl r 39 [b, (ii 100)] fun a => kcl r 82 [b] fun e => kcl r 39 [b, (ii 100)] fun f => keq c (ii 0)
  fun g => ifV g (keq e (ii 0) fun h => ifV h (keq d (ii 14) fun i => ifV i (keq a (ii 6) fun j => ifV j (keq f (ii 1) fun l => ifV l (kcl r 31 [b] fun m => ifV m (kcl r
  32 [b] fun n => keq n (ii 0) fun o => ifV o (kcl r 38 [b] fun p => keq p (ii 7) fun q => ifV q (kcl r 83 [b, (ii 9)] fun s => keq s (Value.string { data := #[] }) fun
  t => outK [t]) (outK [bF])) (outK [bF])) (outK [bF])) (outK [bF])) (outK [bF])) (outK [bF])) (outK [bF])) (outK [bF])
theorem st_balerlaw24_none {lf : Nat} {r : RT}  : evStep Tryz.prog gt lf r 28 #[] = inside (b_balerlaw24_none lf r) := by kernel_rfl

/- unpress_New -/
def b_unpress_New (lf : Nat) (r : RT) (a b c : V) : M V := kcl r 58 [a] fun d => kex d 0 fun e => kex d 1 fun f => kne f (ii 0) fun d => ifV d (outK [nP, (ii 1)]) (kcl r
  84 [b, c] fun g => knt g fun h => ifV h (outK [nP, (ii 1)]) (kcl r 59 [(Value.string { data := #[] })] fun d => kbd z132 [(0, 1, b), (1, 1, c), (3, 1, d), (4, 1, e)]
  fun g => kbx 132 g fun i => outK [i, (ii 0)]))
theorem st_unpress_New {lf : Nat} {r : RT} {a b c : V} : evStep Tryz.prog gt lf r 29 #[a, b, c] = inside (b_unpress_New lf r a b c) := by kernel_rfl

/- balerlaw24_run_rest -/
def lpA_balerlaw24_run_rest (lf : Nat) (r : RT) : Nat→(V→V→M V)→V→V→V→V→V→M V
  | 0, _, _, _, _, _, _ => .fail
  | fu + 1, k, a, b, c, d, e => kls e (ii 100000) fun f => ifV f (kfa 0 c fun g => kld g fun h => kcl r 31 [h] fun i => ifV i (k c d) (klg 4 c fun g => klx b fun h =>
   kcl r 41 [g, b, h] fun j => ksg 4 c j fun _ => kfa 0 c fun g => kld g fun h => kcl r 39 [h, (ii 100000)] fun j => kfa 2 c fun g => (timed (kld g M.ret)).bind fun h =>
   kfa 0 c fun j => (timed (kld j M.ret)).bind fun l => (timed (kcl r 83 [l.1, (ii 100000)] M.ret)).bind fun m => kad h.1 m.1 fun n => kfa 2 c fun o => (timed (kst o n
   M.ret)).bind fun p => chkT ((!(clash3 h.2 m.2) && true) && true) (kad e (ii 1) fun g => lpA_balerlaw24_run_rest lf r fu k a b c d g))) (k c d)
def sA_balerlaw24_run_rest : List Nat := [0, 1, 2, 4, 5]
def kcA_balerlaw24_run_rest (lf : Nat) (r : RT) : (V→V→M V) := fun a b => kfa 2 a fun c => (timed (kld c M.ret)).bind fun d => kfa 0 a fun e => (timed (kld e
  M.ret)).bind fun f => (timed (kcl r 83 [f.1, (ii 1048576)] M.ret)).bind fun g => kad d.1 g.1 fun h => kfa 2 a fun i => (timed (kst i h M.ret)).bind fun j => chkT
  ((!(clash3 d.2 g.2) && true) && true) (klg 4 a fun c => ksg 4 b c fun _ => klg 4 b fun a => outK [a])
def b_balerlaw24_run_rest (lf : Nat) (r : RT) (a b : V) : M V := kbx 60 a fun c => kal 60 z60 fun d => lpA_balerlaw24_run_rest lf r lf (kcA_balerlaw24_run_rest lf r) a b c d (ii 0)
theorem lqA_balerlaw24_run_rest {lf : Nat} {r : RT} (K : KT) : ∀ fu, lpA_balerlaw24_run_rest lf r fu (fun a b => K (.exit 0) (zp [2, 4] [a, b])) = fun a b c d e => loopK
  (cQ 30 (pb 5 5) lf r) sA_balerlaw24_run_rest fu (zp sA_balerlaw24_run_rest [a, b, c, d, e]) K
  | 0 => by funext a b c d e; kernel_rfl
  | fu + 1 => by
    have ih := lqA_balerlaw24_run_rest (lf := lf) (r := r) K fu
    funext a b c d e
    rw [lpA_balerlaw24_run_rest]
    simp only [ih]
    kernel_rfl
theorem kqA_balerlaw24_run_rest {lf : Nat} {r : RT} : kcA_balerlaw24_run_rest lf r = (fun a b => (tK 30 (pb 4 5) lf r) (.exit 0) (zp [2, 4] [a, b])) := by kernel_rfl
theorem st_balerlaw24_run_rest {lf : Nat} {r : RT} {a b : V} : evStep Tryz.prog gt lf r 30 #[a, b] = inside (b_balerlaw24_run_rest lf r a b) := by 
  unfold b_balerlaw24_run_rest
  simp only [kqA_balerlaw24_run_rest, lqA_balerlaw24_run_rest]
  kernel_rfl

/- unpress_Expander_Done -/
def b_unpress_Expander_Done (lf : Nat) (r : RT) (a : V) : M V := kpn a nP fun b => ifV b (knn a fun c => kfa 8 c fun d => kld d fun e => outK [e]) (outK [bF])
theorem st_unpress_Expander_Done {lf : Nat} {r : RT} {a : V} : evStep Tryz.prog gt lf r 31 #[a] = inside (b_unpress_Expander_Done lf r a) := by kernel_rfl

/- unpress_Expander_Err -/
def b_unpress_Expander_Err (lf : Nat) (r : RT) (a : V) : M V := kpe a nP fun b => ifV b (outK [(ii 0)]) (knn a fun c => kfa 9 c fun d => kld d fun e => outK [e])
theorem st_unpress_Expander_Err {lf : Nat} {r : RT} {a : V} : evStep Tryz.prog gt lf r 32 #[a] = inside (b_unpress_Expander_Err lf r a) := by kernel_rfl

/- balerref24_Need -/
def b_balerref24_Need (lf : Nat) (r : RT) (a b c : V) : M V := kad b c fun d => kml (ii 36) a fun e => kad d e fun f => kad f (ii 40960) fun g => outK [g]
theorem st_balerref24_Need {lf : Nat} {r : RT} {a b c : V} : evStep Tryz.prog gt lf r 33 #[a, b, c] = inside (b_balerref24_Need lf r a b c) := by kernel_rfl

/- balerlaw24_run_act -/
def b_balerlaw24_run_act (lf : Nat) (r : RT) (a b c : V) : M V := kbx 60 a fun d => kbx 67 c fun e => kal 60 z60 fun f => kfa 0 e fun g => kld g fun h => keq h (ii 0)
  fun g => (fun i => ifV g (klg 4 d fun j => kfa 1 e fun l => kld l fun m => kcl r 41 [j, b, m] fun n => ksg 4 f n fun _ => klg 4 f fun a => outK [a]) (keq h (ii 1) fun
  j => ifV j (kfa 0 d fun l => kld l fun m => kcl r 38 [m] fun n => kfa 0 d fun l => kld l fun m => kcl r 37 [m] fun o => kfa 0 d fun l => kld l fun m => kfa 1 e fun p
  => kld p fun q => kcl r 39 [m, q] fun s => kfa 3 d fun l => kld l fun m => ifV m (kgq s (ii 0) fun p => ifV p (kfa 1 e fun q => kld q fun t => kma t (ii 0) fun u =>
  klq s u fun v => ifV v (kfa 0 d fun w => kld w fun x => kcl r 38 [x] fun y => kad n s fun z => keq y z fun A => ifV A (keq s (ii 0) fun B => ifV B (kfa 1 e fun C =>
  kld C fun D => kma D (ii 0) fun E => keq s E fun G => ifV G (kfa 3 d fun J => kst J bT fun _ => i) (kfa 0 d fun J => kld J fun L => kcl r 37 [L] fun N => kfa 3 d fun O
  => kst O N fun _ => i)) (knt o fun C => ifV C (kfa 1 e fun D => kld D fun E => kma E (ii 0) fun G => keq s G fun J => ifV J (kfa 3 d fun L => kst L bT fun _ => i) (kfa
  0 d fun L => kld L fun N => kcl r 37 [N] fun O => kfa 3 d fun Q => kst Q O fun _ => i)) (kfa 3 d fun D => kst D bF fun _ => i))) (kfa 3 d fun B => kst B bF fun _ =>
  i)) (kfa 3 d fun w => kst w bF fun _ => i)) (kfa 3 d fun q => kst q bF fun _ => i)) (kfa 3 d fun p => kst p bF fun _ => i)) (kfa 0 d fun l => kld l fun m => kcl r 36
  [m] fun n => kfa 0 d fun l => kld l fun m => kfa 1 e fun o => kld o fun p => kcl r 83 [m, p] fun q => kfa 3 d fun l => kld l fun m => ifV m (klx q fun o => kfa 1 e fun
  p => kld p fun s => kma s (ii 0) fun t => kmi n t fun u => keq o u fun v => ifV v (kfa 0 d fun w => kld w fun x => kcl r 36 [x] fun y => klx q fun z => ksb n z fun A
  => keq y A fun B => kfa 3 d fun C => kst C B fun _ => kfa 2 d fun l => kld l fun m => kad m q fun o => kfa 2 d fun p => kst p o fun _ => i) (kfa 3 d fun w => kst w bF
  fun _ => kfa 2 d fun l => kld l fun m => kad m q fun o => kfa 2 d fun p => kst p o fun _ => i)) (kfa 3 d fun o => kst o bF fun _ => kfa 2 d fun l => kld l fun m => kad
  m q fun o => kfa 2 d fun p => kst p o fun _ => i)))) (klg 4 d fun i => ksg 4 f i fun _ => klg 4 f fun a => outK [a])
theorem st_balerlaw24_run_act {lf : Nat} {r : RT} {a b c : V} : evStep Tryz.prog gt lf r 34 #[a, b, c] = inside (b_balerlaw24_run_act lf r a b c) := by kernel_rfl

/- unpress_Expander_Held -/
def b_unpress_Expander_Held (lf : Nat) (r : RT) (a : V) : M V := kpe a nP fun b => ifV b (outK [(ii 0)]) (knn a fun c => kfa 3 c fun d => (timed (kld d M.ret)).bind fun
  e => (timed (kcl r 85 [e.1] M.ret)).bind fun f => knn a fun g => kfa 4 g fun h => (timed (kld h M.ret)).bind fun i => (timed (kcl r 86 [i.1] M.ret)).bind fun j => kad
  f.1 j.1 fun l => knn a fun m => kfa 7 m fun n => (timed (kld n M.ret)).bind fun o => kln o.1 fun p => kad l p fun q => chkT ((!(clash3 f.2 i.2) && (!(clash3 f.2 o.2)
  && true)) && ((!(clash3 j.2 o.2) && true) && true)) (knn a fun c => kfa 5 c fun d => kld d fun e => kpn e nP fun f => ifV f (knn a fun c => kfa 5 c fun d => kld d fun
  e => knn e fun g => kfa 3 g fun h => kld h fun i => kcl r 87 [i] fun j => kad q j fun l => outK [l]) (outK [q])))
theorem st_unpress_Expander_Held {lf : Nat} {r : RT} {a : V} : evStep Tryz.prog gt lf r 35 #[a] = inside (b_unpress_Expander_Held lf r a) := by kernel_rfl

/- unpress_Expander_Waiting -/
def b_unpress_Expander_Waiting (lf : Nat) (r : RT) (a : V) : M V := kpe a nP fun b => ifV b (outK [(ii 0)]) (knn a fun c => kfa 7 c fun d => kld d fun e => kln e fun f => outK [f])
theorem st_unpress_Expander_Waiting {lf : Nat} {r : RT} {a : V} : evStep Tryz.prog gt lf r 36 #[a] = inside (b_unpress_Expander_Waiting lf r a) := by kernel_rfl

/- unpress_Expander_Stopped -/
def b_unpress_Expander_Stopped (lf : Nat) (r : RT) (a : V) : M V := kpe a nP fun b => ifV b (outK [bT]) (knn a fun c => kfa 8 c fun d => kld d fun e => ifV e (outK [bT])
  (knn a fun b => kfa 5 b fun c => kld c fun d => kpn d nP fun f => ifV f (knn a fun b => kfa 7 b fun c => kld c fun d => kln d fun g => knn a fun h => kfa 1 h fun i =>
  kld i fun j => kgq g j fun l => outK [l]) (knn a fun b => kfa 6 b fun c => kld c fun d => outK [d])))
theorem st_unpress_Expander_Stopped {lf : Nat} {r : RT} {a : V} : evStep Tryz.prog gt lf r 37 #[a] = inside (b_unpress_Expander_Stopped lf r a) := by kernel_rfl

/- unpress_Expander_Steps -/
def b_unpress_Expander_Steps (lf : Nat) (r : RT) (a : V) : M V := kpe a nP fun b => ifV b (outK [(ii 0)]) (knn a fun c => kfa 10 c fun d => kld d fun e => outK [e])
theorem st_unpress_Expander_Steps {lf : Nat} {r : RT} {a : V} : evStep Tryz.prog gt lf r 38 #[a] = inside (b_unpress_Expander_Steps lf r a) := by kernel_rfl

/- unpress_Expander_Step -/
def lpA_unpress_Expander_Step (lf : Nat) (r : RT) : Nat→(V→V→M V)→V→V→V→V→M V
  | 0, _, _, _, _, _ => .fail
  | fu + 1, k, a, b, c, d => kls d b fun e => ifV e (kcl r 37 [a] fun f => knt f fun g => ifV g (knn a fun e => kfa 5 e fun f => kld f fun h => kpn h nP fun i => ifV i
   (kcl r 88 [a] fun e => kad d (ii 1) fun e => lpA_unpress_Expander_Step lf r fu k a b c e) (kcl r 89 [a] fun e => knt e fun f => ifV f (lpA_unpress_Expander_Step lf r
   fu k a b c d) (kad d (ii 1) fun e => lpA_unpress_Expander_Step lf r fu k a b c e))) (k a d)) (k a d)
def sA_unpress_Expander_Step : List Nat := [0, 1, 4, 5]
def kcA_unpress_Expander_Step (lf : Nat) (r : RT) : (V→V→M V) := fun a b => kpn a nP fun c => ifV c (knn a fun d => kfa 10 d fun e => kld e fun f => kad f b fun g => knn
  a fun h => kfa 10 h fun i => kst i g fun _ => outK [b]) (outK [b])
def b_unpress_Expander_Step (lf : Nat) (r : RT) (a b : V) : M V := lpA_unpress_Expander_Step lf r lf (kcA_unpress_Expander_Step lf r) a b (ii 0) (ii 0)
theorem lqA_unpress_Expander_Step {lf : Nat} {r : RT} (K : KT) : ∀ fu, lpA_unpress_Expander_Step lf r fu (fun a b => K (.exit 0) (zp [0, 5] [a, b])) = fun a b c d =>
  loopK (cQ 39 (pb 5 3) lf r) sA_unpress_Expander_Step fu (zp sA_unpress_Expander_Step [a, b, c, d]) K
  | 0 => by funext a b c d; kernel_rfl
  | fu + 1 => by
    have ih := lqA_unpress_Expander_Step (lf := lf) (r := r) K fu
    funext a b c d
    rw [lpA_unpress_Expander_Step]
    simp only [ih]
    kernel_rfl
theorem kqA_unpress_Expander_Step {lf : Nat} {r : RT} : kcA_unpress_Expander_Step lf r = (fun a b => (tK 39 (pb 4 3) lf r) (.exit 0) (zp [0, 5] [a, b])) := by kernel_rfl
theorem st_unpress_Expander_Step {lf : Nat} {r : RT} {a b : V} : evStep Tryz.prog gt lf r 39 #[a, b] = inside (b_unpress_Expander_Step lf r a b) := by 
  unfold b_unpress_Expander_Step
  simp only [kqA_unpress_Expander_Step, lqA_unpress_Expander_Step]
  kernel_rfl

/- unpress_Expander_Feed -/
def b_unpress_Expander_Feed (lf : Nat) (r : RT) (a b : V) : M V := kpe a nP fun c => ifV c (outK [(ii 0)]) (knn a fun d => kfa 2 d fun e => kld e fun f => ifV f (outK
  [(ii 0)]) (knn a fun g => kfa 8 g fun h => kld h fun i => ifV i (outK [(ii 0)]) (klx b fun c => knn a fun d => kfa 0 d fun e => (timed (kld e M.ret)).bind fun f => knn
  a fun g => kfa 3 g fun h => (timed (kld h M.ret)).bind fun j => (timed (kcl r 85 [j.1] M.ret)).bind fun l => ksb f.1 l.1 fun m => kmi c m fun n => chkT ((!(clash3 f.2
  l.2) && true) && true) (knn a fun c => kfa 3 c fun d => kld d fun e => ksx b none (some n) fun f => kcl r 90 [e, f] fun g => kgr n (ii 0) fun c => ifV c (knn a fun d
  => kfa 6 d fun e => kst e bF fun _ => outK [n]) (outK [n])))))
theorem st_unpress_Expander_Feed {lf : Nat} {r : RT} {a b : V} : evStep Tryz.prog gt lf r 40 #[a, b] = inside (b_unpress_Expander_Feed lf r a b) := by kernel_rfl

/- balerlaw24_run_feed -/
def b_balerlaw24_run_feed (lf : Nat) (r : RT) (a b c : V) : M V := kbx 60 a fun d => kal 60 z60 fun e => kma c (ii 0) fun f => klx b fun g => kfa 1 d fun h => kld h fun
  i => ksb g i fun j => kmi f j fun l => kfa 0 d fun c => kld c fun f => kfa 1 d fun g => kld g fun h => kfa 1 d fun i => kld i fun j => kad j l fun m => ksx b (some h)
  (some m) fun n => kcl r 40 [f, n] fun o => kls o (ii 0) fun c => ifV c (kfa 0 d fun c => kld c fun f => kbd z60 [(0, 1, f)] fun g => ksg 4 e g fun _ => klg 4 e fun a
  => outK [a]) (kgr o l fun f => ifV f (kfa 0 d fun c => kld c fun f => kbd z60 [(0, 1, f)] fun g => ksg 4 e g fun _ => klg 4 e fun a => outK [a]) (kfa 0 d fun g => kld
  g fun h => kcl r 31 [h] fun i => ifV i (kgr o (ii 0) fun j => ifV j (kfa 0 d fun c => kld c fun f => kbd z60 [(0, 1, f)] fun g => ksg 4 e g fun _ => klg 4 e fun a =>
  outK [a]) (kfa 1 d fun c => kld c fun f => kad f o fun g => kfa 1 d fun h => kst h g fun _ => kfa 1 d fun c => kld c fun f => klx b fun g => keq f g fun h => ifV h
  (kfa 0 d fun c => kld c fun f => kcl r 82 [f] fun g => klg 4 d fun c => ksg 4 e c fun _ => klg 4 e fun a => outK [a]) (klg 4 d fun c => ksg 4 e c fun _ => klg 4 e fun
  a => outK [a]))) (kfa 1 d fun c => kld c fun f => kad f o fun g => kfa 1 d fun h => kst h g fun _ => kfa 1 d fun c => kld c fun f => klx b fun g => keq f g fun h =>
  ifV h (kfa 0 d fun c => kld c fun f => kcl r 82 [f] fun g => klg 4 d fun c => ksg 4 e c fun _ => klg 4 e fun a => outK [a]) (klg 4 d fun c => ksg 4 e c fun _ => klg 4 e fun a => outK [a]))))
theorem st_balerlaw24_run_feed {lf : Nat} {r : RT} {a b c : V} : evStep Tryz.prog gt lf r 41 #[a, b, c] = inside (b_balerlaw24_run_feed lf r a b c) := by kernel_rfl

/- balerlaw25_Setup_may -/
def b_balerlaw25_Setup_may (lf : Nat) (r : RT) (a : V) : M V := kbx 77 a fun b => kfa 0 b fun c => kld c fun d => kfa 1 b fun e => kld e fun f => kcl r 91 [d, f] fun g => outK [g]
theorem st_balerlaw25_Setup_may {lf : Nat} {r : RT} {a : V} : evStep Tryz.prog gt lf r 42 #[a] = inside (b_balerlaw25_Setup_may lf r a) := by kernel_rfl

/- balerlaw25_three -/
def b_balerlaw25_three (lf : Nat) (r : RT)  : M V := kcl r 44 [(ii 24), (ii 64)] fun a => kex a 0 fun b => kex a 1 fun c => kcl r 24 [(ii 1), (ii 24), (Value.string {
  data := #[97, 98, 99] })] fun a => kcl r 45 [b, a] fun d => kcl r 47 [b, (ii 100000)] fun a => kcl r 46 [b] fun e => kcl r 47 [b, (ii 100000)] fun f => keq c (ii 0)
  fun g => ifV g (keq e (ii 0) fun h => ifV h (kgr d (ii 14) fun i => ifV i (kgr a (ii 9) fun j => ifV j (keq f (ii 1) fun l => ifV l (kcl r 48 [b] fun m => ifV m (kcl r
  49 [b] fun n => keq n (ii 0) fun o => ifV o (kcl r 50 [b] fun p => keq p (ii 3) fun q => ifV q (kcl r 57 [b] fun s => kad a (ii 1) fun t => keq s t fun u => ifV u (kcl
  r 92 [b, (ii 9)] fun v => keq v (Value.string { data := #[51] }) fun w => outK [w]) (outK [bF])) (outK [bF])) (outK [bF])) (outK [bF])) (outK [bF])) (outK [bF])) (outK [bF])) (outK [bF])) (outK [bF])
theorem st_balerlaw25_three {lf : Nat} {r : RT}  : evStep Tryz.prog gt lf r 43 #[] = inside (b_balerlaw25_three lf r) := by kernel_rfl

/- tester_New -/
def b_tester_New (lf : Nat) (r : RT) (a b : V) : M V := kcl r 29 [a, b, (ii 4096)] fun c => kex c 0 fun d => kex c 1 fun e => kne e (ii 0) fun c => ifV c (outK [nP, e])
  (kbd z142 [(0, 1, d)] fun f => kbd z144 [(0, 2, f)] fun g => kbx 144 g fun h => outK [h, (ii 0)])
theorem st_tester_New {lf : Nat} {r : RT} {a b : V} : evStep Tryz.prog gt lf r 44 #[a, b] = inside (b_tester_New lf r a b) := by kernel_rfl

/- tester_Tester_Feed -/
def b_tester_Tester_Feed (lf : Nat) (r : RT) (a b : V) : M V := kpe a nP fun c => ifV c (outK [(ii 0)]) (knn a fun d => kfa 0 d fun e => kfa 0 e fun f => kld f fun g => kcl r 40 [g, b] fun h => outK [h])
theorem st_tester_Tester_Feed {lf : Nat} {r : RT} {a b : V} : evStep Tryz.prog gt lf r 45 #[a, b] = inside (b_tester_Tester_Feed lf r a b) := by kernel_rfl

/- tester_Tester_End -/
def b_tester_Tester_End (lf : Nat) (r : RT) (a : V) : M V := kpe a nP fun b => ifV b (outK [(ii 7)]) (knn a fun c => kfa 0 c fun d => kfa 0 d fun e => kld e fun f => kcl r 82 [f] fun g => outK [g])
theorem st_tester_Tester_End {lf : Nat} {r : RT} {a : V} : evStep Tryz.prog gt lf r 46 #[a] = inside (b_tester_Tester_End lf r a) := by kernel_rfl

/- tester_Tester_Step -/
def lpA_tester_Tester_Step (lf : Nat) (r : RT) : Nat→(V→V→M V)→V→V→V→V→V→M V
  | 0, _, _, _, _, _, _ => .fail
  | fu + 1, k, a, b, c, d, e => kls d b fun f => ifV f (kcl r 93 [a] fun g => knt g fun h => ifV h (knn a fun f => kfa 0 f fun g => kfa 0 g fun i => kld i fun j => ksb b
   d fun l => kcl r 39 [j, l] fun m => kad d m fun n => knn a fun d => kfa 0 d fun f => kfa 0 f fun g => kld g fun i => kcl r 36 [i] fun j => kgq j (ii 4096) fun l =>
   ifV l (knn a fun d => kfa 0 d fun f => kcl r 94 [f] fun g => lpA_tester_Tester_Step lf r fu k a b c n e) (knn a fun m => kfa 0 m fun o => kfa 0 o fun p => kld p fun q
   => kcl r 31 [q] fun s => ifV s (knn a fun d => kfa 0 d fun f => kcl r 94 [f] fun g => lpA_tester_Tester_Step lf r fu k a b c n e) (lpA_tester_Tester_Step lf r fu k a b c n e))) (k a d)) (k a d)
def sA_tester_Tester_Step : List Nat := [0, 1, 4, 5, 7]
def kcA_tester_Tester_Step (lf : Nat) (r : RT) : (V→V→M V) := fun a b => kcl r 95 [a] fun c => outK [b]
def b_tester_Tester_Step (lf : Nat) (r : RT) (a b : V) : M V := kpe a nP fun c => ifV c (outK [(ii 0)]) (lpA_tester_Tester_Step lf r lf (kcA_tester_Tester_Step lf r) a b (ii 0) (ii 0) c)
theorem lqA_tester_Tester_Step {lf : Nat} {r : RT} (K : KT) : ∀ fu, lpA_tester_Tester_Step lf r fu (fun a b => K (.exit 0) (zp [0, 5] [a, b])) = fun a b c d e => loopK
  (cQ 47 (pb 6 7) lf r) sA_tester_Tester_Step fu (zp sA_tester_Tester_Step [a, b, c, d, e]) K
  | 0 => by funext a b c d e; kernel_rfl
  | fu + 1 => by
    have ih := lqA_tester_Tester_Step (lf := lf) (r := r) K fu
    funext a b c d e
    rw [lpA_tester_Tester_Step]
    simp only [ih]
    kernel_rfl
theorem kqA_tester_Tester_Step {lf : Nat} {r : RT} : kcA_tester_Tester_Step lf r = (fun a b => (tK 47 (pb 5 7) lf r) (.exit 0) (zp [0, 5] [a, b])) := by kernel_rfl
theorem st_tester_Tester_Step {lf : Nat} {r : RT} {a b : V} : evStep Tryz.prog gt lf r 47 #[a, b] = inside (b_tester_Tester_Step lf r a b) := by 
  unfold b_tester_Tester_Step
  simp only [kqA_tester_Tester_Step, lqA_tester_Tester_Step]
  kernel_rfl

/- tester_Tester_Done -/
def b_tester_Tester_Done (lf : Nat) (r : RT) (a : V) : M V := kpn a nP fun b => ifV b (knn a fun c => kfa 0 c fun d => kfa 0 d fun e => kld e fun f => kcl r 31 [f] fun g => outK [g]) (outK [bF])
theorem st_tester_Tester_Done {lf : Nat} {r : RT} {a : V} : evStep Tryz.prog gt lf r 48 #[a] = inside (b_tester_Tester_Done lf r a) := by kernel_rfl

/- tester_Tester_Err -/
def b_tester_Tester_Err (lf : Nat) (r : RT) (a : V) : M V := kpe a nP fun b => ifV b (outK [(ii 0)]) (knn a fun c => kfa 0 c fun d => kfa 0 d fun e => kld e fun f => kcl r 32 [f] fun g => outK [g])
theorem st_tester_Tester_Err {lf : Nat} {r : RT} {a : V} : evStep Tryz.prog gt lf r 49 #[a] = inside (b_tester_Tester_Err lf r a) := by kernel_rfl

/- tester_Tester_Count -/
def b_tester_Tester_Count (lf : Nat) (r : RT) (a : V) : M V := kpe a nP fun b => ifV b (outK [(ii 0)]) (knn a fun c => kfa 0 c fun d => kfa 1 d fun e => kld e fun f => outK [f])
theorem st_tester_Tester_Count {lf : Nat} {r : RT} {a : V} : evStep Tryz.prog gt lf r 50 #[a] = inside (b_tester_Tester_Count lf r a) := by kernel_rfl

/- tester_Tester_Waiting -/
def b_tester_Tester_Waiting (lf : Nat) (r : RT) (a : V) : M V := kpe a nP fun b => ifV b (outK [(ii 0)]) (knn a fun c => kfa 2 c fun d => kld d fun e => klx e fun f => outK [f])
theorem st_tester_Tester_Waiting {lf : Nat} {r : RT} {a : V} : evStep Tryz.prog gt lf r 51 #[a] = inside (b_tester_Tester_Waiting lf r a) := by kernel_rfl

/- balerref25_Digits -/
def lpA_balerref25_Digits (lf : Nat) (r : RT) : Nat→(V→M V)→V→V→V→V→M V
  | 0, _, _, _, _, _ => .fail
  | fu + 1, k, a, b, c, d => kgq a (ii 10) fun e => ifV e (kqu a (ii 10) fun f => krm f (ii 10) fun a => krm f (ii 10) fun g => kad g (ii 1) fun h => ksx (Value.string {
   data := #[48, 49, 50, 51, 52, 53, 54, 55, 56, 57] }) (some a) (some h) fun i => kad i c fun j => lpA_balerref25_Digits lf r fu k f b j d) (k c)
def sA_balerref25_Digits : List Nat := [0, 2, 3, 5]
def kcA_balerref25_Digits (lf : Nat) (r : RT) : (V→M V) := fun a => outK [a]
def b_balerref25_Digits (lf : Nat) (r : RT) (a : V) : M V := kls a (ii 0) fun b => (fun c => ifV b (c (ii 0)) (c a)) fun a => krm a (ii 10) fun c => krm a (ii 10) fun d
  => kad d (ii 1) fun e => ksx (Value.string { data := #[48, 49, 50, 51, 52, 53, 54, 55, 56, 57] }) (some c) (some e) fun f => lpA_balerref25_Digits lf r lf
  (kcA_balerref25_Digits lf r) a (Value.string { data := #[] }) f b
theorem lqA_balerref25_Digits {lf : Nat} {r : RT} (K : KT) : ∀ fu, lpA_balerref25_Digits lf r fu (fun a => K (.exit 0) (zp [3] [a])) = fun a b c d => loopK (cQ 52 (pb 6
  7) lf r) sA_balerref25_Digits fu (zp sA_balerref25_Digits [a, b, c, d]) K
  | 0 => by funext a b c d; kernel_rfl
  | fu + 1 => by
    have ih := lqA_balerref25_Digits (lf := lf) (r := r) K fu
    funext a b c d
    rw [lpA_balerref25_Digits]
    simp only [ih]
    kernel_rfl
theorem kqA_balerref25_Digits {lf : Nat} {r : RT} : kcA_balerref25_Digits lf r = (fun a => (tK 52 (pb 5 7) lf r) (.exit 0) (zp [3] [a])) := by kernel_rfl
theorem st_balerref25_Digits {lf : Nat} {r : RT} {a : V} : evStep Tryz.prog gt lf r 52 #[a] = inside (b_balerref25_Digits lf r a) := by 
  unfold b_balerref25_Digits
  simp only [kqA_balerref25_Digits, lqA_balerref25_Digits]
  kernel_rfl

/- balerref25_Need -/
def b_balerref25_Need (lf : Nat) (r : RT) (a b : V) : M V := kcl r 33 [a, b, (ii 4096)] fun c => kad c (ii 32) fun d => outK [d]
theorem st_balerref25_Need {lf : Nat} {r : RT} {a b : V} : evStep Tryz.prog gt lf r 53 #[a, b] = inside (b_balerref25_Need lf r a b) := by kernel_rfl

/- balerlaw25_run_act -/
def b_balerlaw25_run_act (lf : Nat) (r : RT) (a b c : V) : M V := kbx 85 a fun d => kbx 87 c fun e => kal 85 z85 fun f => kfa 0 e fun g => kld g fun h => keq h (ii 0)
  fun g => (fun i => ifV g (kfa 1 e fun j => kld j fun l => kma l (ii 0) fun m => klx b fun n => kfa 1 d fun o => kld o fun p => ksb n p fun q => kmi m q fun s => kfa 0
  d fun j => kld j fun l => kfa 1 d fun m => kld m fun n => kfa 1 d fun o => kld o fun p => kad p s fun q => ksx b (some n) (some q) fun t => kcl r 45 [l, t] fun u =>
  kls u (ii 0) fun j => ifV j (kfa 0 d fun j => kld j fun l => kbd z85 [(0, 1, l)] fun m => ksg 4 f m fun _ => klg 4 f fun a => outK [a]) (kgr u s fun l => ifV l (kfa 0
  d fun j => kld j fun m => kbd z85 [(0, 1, m)] fun n => ksg 4 f n fun _ => klg 4 f fun a => outK [a]) (kfa 1 d fun j => kld j fun m => kad m u fun n => kfa 1 d fun o =>
  kst o n fun _ => kfa 1 d fun j => kld j fun m => klx b fun n => keq m n fun o => ifV o (kfa 0 d fun j => kld j fun m => kcl r 46 [m] fun n => i) (i)))) (keq h (ii 1)
  fun j => ifV j (kfa 0 d fun l => kld l fun m => kcl r 57 [m] fun n => kfa 0 d fun l => kld l fun m => kcl r 93 [m] fun o => kfa 0 d fun l => kld l fun m => kfa 1 e fun
  p => kld p fun q => kcl r 47 [m, q] fun s => kfa 3 d fun l => kld l fun m => ifV m (kgq s (ii 0) fun p => ifV p (kfa 1 e fun q => kld q fun t => kma t (ii 0) fun u =>
  klq s u fun v => ifV v (kfa 0 d fun w => kld w fun x => kcl r 57 [x] fun y => kad n s fun z => keq y z fun A => ifV A (keq s (ii 0) fun B => ifV B (kfa 1 e fun C =>
  kld C fun D => kma D (ii 0) fun E => keq s E fun G => ifV G (kfa 3 d fun J => kst J bT fun _ => i) (kfa 0 d fun J => kld J fun L => kcl r 93 [L] fun N => kfa 3 d fun O
  => kst O N fun _ => i)) (knt o fun C => ifV C (kfa 1 e fun D => kld D fun E => kma E (ii 0) fun G => keq s G fun J => ifV J (kfa 3 d fun L => kst L bT fun _ => i) (kfa
  0 d fun L => kld L fun N => kcl r 93 [N] fun O => kfa 3 d fun Q => kst Q O fun _ => i)) (kfa 3 d fun D => kst D bF fun _ => i))) (kfa 3 d fun B => kst B bF fun _ =>
  i)) (kfa 3 d fun w => kst w bF fun _ => i)) (kfa 3 d fun q => kst q bF fun _ => i)) (kfa 3 d fun p => kst p bF fun _ => i)) (kfa 0 d fun l => kld l fun m => kcl r 51
  [m] fun n => kfa 0 d fun l => kld l fun m => kfa 1 e fun o => kld o fun p => kcl r 92 [m, p] fun q => kfa 3 d fun l => kld l fun m => ifV m (klx q fun o => kfa 1 e fun
  p => kld p fun s => kma s (ii 0) fun t => kmi n t fun u => keq o u fun v => ifV v (kfa 0 d fun w => kld w fun x => kcl r 51 [x] fun y => klx q fun z => ksb n z fun A
  => keq y A fun B => kfa 3 d fun C => kst C B fun _ => kfa 2 d fun l => kld l fun m => kad m q fun o => kfa 2 d fun p => kst p o fun _ => i) (kfa 3 d fun w => kst w bF
  fun _ => kfa 2 d fun l => kld l fun m => kad m q fun o => kfa 2 d fun p => kst p o fun _ => i)) (kfa 3 d fun o => kst o bF fun _ => kfa 2 d fun l => kld l fun m => kad
  m q fun o => kfa 2 d fun p => kst p o fun _ => i)))) (klg 4 d fun i => ksg 4 f i fun _ => klg 4 f fun a => outK [a])
theorem st_balerlaw25_run_act {lf : Nat} {r : RT} {a b c : V} : evStep Tryz.prog gt lf r 54 #[a, b, c] = inside (b_balerlaw25_run_act lf r a b c) := by kernel_rfl

/- tester_Tester_Held -/
def b_tester_Tester_Held (lf : Nat) (r : RT) (a : V) : M V := kpe a nP fun b => ifV b (outK [(ii 0)]) (knn a fun c => kfa 0 c fun d => kfa 0 d fun e => (timed (kld e
  M.ret)).bind fun f => (timed (kcl r 35 [f.1] M.ret)).bind fun g => knn a fun h => kfa 2 h fun i => (timed (kld i M.ret)).bind fun j => klx j.1 fun l => kad g.1 l fun m
  => chkT ((!(clash3 g.2 j.2) && true) && true) (outK [m]))
theorem st_tester_Tester_Held {lf : Nat} {r : RT} {a : V} : evStep Tryz.prog gt lf r 55 #[a] = inside (b_tester_Tester_Held lf r a) := by kernel_rfl

/- balerlaw25_run_rest -/
def lpA_balerlaw25_run_rest (lf : Nat) (r : RT) : Nat→(V→V→M V)→V→V→V→V→V→M V
  | 0, _, _, _, _, _, _ => .fail
  | fu + 1, k, a, b, c, d, e => kls e (ii 2000) fun f => ifV f (kfa 0 c fun g => kld g fun h => kcl r 48 [h] fun i => ifV i (k c d) (klg 4 c fun g => klx b fun h => kbd
   z87 [(1, 1, h)] fun j => kcl r 54 [g, b, j] fun l => ksg 4 c l fun _ => kfa 0 c fun g => kld g fun h => kcl r 47 [h, (ii 1000000)] fun j => kad e (ii 1) fun g =>
   lpA_balerlaw25_run_rest lf r fu k a b c d g)) (k c d)
def sA_balerlaw25_run_rest : List Nat := [0, 1, 2, 4, 5]
def kcA_balerlaw25_run_rest (lf : Nat) (r : RT) : (V→V→M V) := fun a b => kfa 2 a fun c => (timed (kld c M.ret)).bind fun d => kfa 0 a fun e => (timed (kld e
  M.ret)).bind fun f => (timed (kcl r 92 [f.1, (ii 1000)] M.ret)).bind fun g => kad d.1 g.1 fun h => kfa 2 a fun i => (timed (kst i h M.ret)).bind fun j => chkT
  ((!(clash3 d.2 g.2) && true) && true) (klg 4 a fun c => ksg 4 b c fun _ => klg 4 b fun a => outK [a])
def b_balerlaw25_run_rest (lf : Nat) (r : RT) (a b : V) : M V := kbx 85 a fun c => kal 85 z85 fun d => lpA_balerlaw25_run_rest lf r lf (kcA_balerlaw25_run_rest lf r) a b c d (ii 0)
theorem lqA_balerlaw25_run_rest {lf : Nat} {r : RT} (K : KT) : ∀ fu, lpA_balerlaw25_run_rest lf r fu (fun a b => K (.exit 0) (zp [2, 4] [a, b])) = fun a b c d e => loopK
  (cQ 56 (pb 5 5) lf r) sA_balerlaw25_run_rest fu (zp sA_balerlaw25_run_rest [a, b, c, d, e]) K
  | 0 => by funext a b c d e; kernel_rfl
  | fu + 1 => by
    have ih := lqA_balerlaw25_run_rest (lf := lf) (r := r) K fu
    funext a b c d e
    rw [lpA_balerlaw25_run_rest]
    simp only [ih]
    kernel_rfl
theorem kqA_balerlaw25_run_rest {lf : Nat} {r : RT} : kcA_balerlaw25_run_rest lf r = (fun a b => (tK 56 (pb 4 5) lf r) (.exit 0) (zp [2, 4] [a, b])) := by kernel_rfl
theorem st_balerlaw25_run_rest {lf : Nat} {r : RT} {a b : V} : evStep Tryz.prog gt lf r 56 #[a, b] = inside (b_balerlaw25_run_rest lf r a b) := by 
  unfold b_balerlaw25_run_rest
  simp only [kqA_balerlaw25_run_rest, lqA_balerlaw25_run_rest]
  kernel_rfl

/- tester_Tester_Steps -/
def b_tester_Tester_Steps (lf : Nat) (r : RT) (a : V) : M V := kpe a nP fun b => ifV b (outK [(ii 0)]) (knn a fun c => kfa 0 c fun d => kfa 0 d fun e => kld e fun f => kcl r 38 [f] fun g => outK [g])
theorem st_tester_Tester_Steps {lf : Nat} {r : RT} {a : V} : evStep Tryz.prog gt lf r 57 #[a] = inside (b_tester_Tester_Steps lf r a) := by kernel_rfl

/- unstream_New -/
def b_unstream_New (lf : Nat) (r : RT) (a : V) : M V := kcl r 96 [(ii 1), a] fun b => kex b 0 fun c => kex b 1 fun d => kne d (ii 0) fun b => ifV b (outK [nP, d]) (kbd
  z150 [(0, 1, a)] fun c => kbx 150 c fun e => outK [e, (ii 0)])
theorem st_unstream_New {lf : Nat} {r : RT} {a : V} : evStep Tryz.prog gt lf r 58 #[a] = inside (b_unstream_New lf r a) := by kernel_rfl

/- bits_NewReader -/
def b_bits_NewReader (lf : Nat) (r : RT) (a : V) : M V := kbd z152 [(0, 1, a)] fun b => kbx 152 b fun c => outK [c]
theorem st_bits_NewReader {lf : Nat} {r : RT} {a : V} : evStep Tryz.prog gt lf r 59 #[a] = inside (b_bits_NewReader lf r a) := by kernel_rfl

/- inspect_reader_step -/
def b_inspect_reader_step (lf : Nat) (r : RT) (a : V) : M V := knn a fun b => kfa 2 b fun c => kld c fun d => kcl r 97 [d] fun e => ifV e (knn a fun f => kfa 1 f fun g
  => kld g fun h => kcl r 98 [h] fun i => keq i (ii 0) fun j => ifV j (outK [bT, (ii 0)]) (knn a fun b => kfa 2 b fun c => kld c fun d => knn a fun e => kfa 1 e fun f =>
  kld f fun g => kcl r 99 [d, g] fun h => kex h 0 fun i => kex h 1 fun l => keq l (ii 3) fun b => ifV b (outK [bT, (ii 24)]) (kne l (ii 0) fun c => ifV c (outK [bT, l])
  (keq i (ii 1) fun d => ifV d (kcl r 100 [a] fun e => kne e (ii 0) fun f => outK [f, e]) (keq i (ii 2) fun e => ifV e (kcl r 101 [a] fun f => outK [bF, (ii 0)]) (kcl r
  102 [a] fun f => outK [bF, (ii 0)])))))) (knn a fun b => kfa 2 b fun c => kld c fun d => knn a fun e => kfa 1 e fun f => kld f fun g => kcl r 99 [d, g] fun h => kex h
  0 fun i => kex h 1 fun j => keq j (ii 3) fun b => ifV b (outK [bT, (ii 24)]) (kne j (ii 0) fun c => ifV c (outK [bT, j]) (keq i (ii 1) fun d => ifV d (kcl r 100 [a]
  fun e => kne e (ii 0) fun f => outK [f, e]) (keq i (ii 2) fun e => ifV e (kcl r 101 [a] fun f => outK [bF, (ii 0)]) (kcl r 102 [a] fun f => outK [bF, (ii 0)])))))
theorem st_inspect_reader_step {lf : Nat} {r : RT} {a : V} : evStep Tryz.prog gt lf r 60 #[a] = inside (b_inspect_reader_step lf r a) := by kernel_rfl

/- balerref01_Bits -/
def lpA_balerref01_Bits (lf : Nat) (r : RT) : Nat→(V→M V)→V→V→V→V→M V
  | 0, _, _, _, _, _ => .fail
  | fu + 1, k, a, b, c, d => klx a fun e => kls d e fun f => ifV f (kit a d fun e => kcv .u32 e fun g => kcl r 103 [g, (ii 8)] fun h => kad c h fun i => kad d (ii 1) fun
   c => lpA_balerref01_Bits lf r fu k a b i c) (k c)
def sA_balerref01_Bits : List Nat := [0, 2, 3, 4]
def kcA_balerref01_Bits (lf : Nat) (r : RT) : (V→M V) := fun a => outK [a]
def b_balerref01_Bits (lf : Nat) (r : RT) (a : V) : M V := lpA_balerref01_Bits lf r lf (kcA_balerref01_Bits lf r) a (Value.string { data := #[] }) (Value.string { data := #[] }) (ii 0)
theorem lqA_balerref01_Bits {lf : Nat} {r : RT} (K : KT) : ∀ fu, lpA_balerref01_Bits lf r fu (fun a => K (.exit 0) (zp [3] [a])) = fun a b c d => loopK (cQ 61 (pb 6 11)
  lf r) sA_balerref01_Bits fu (zp sA_balerref01_Bits [a, b, c, d]) K
  | 0 => by funext a b c d; kernel_rfl
  | fu + 1 => by
    have ih := lqA_balerref01_Bits (lf := lf) (r := r) K fu
    funext a b c d
    rw [lpA_balerref01_Bits]
    simp only [ih]
    kernel_rfl
theorem kqA_balerref01_Bits {lf : Nat} {r : RT} : kcA_balerref01_Bits lf r = (fun a => (tK 61 (pb 5 11) lf r) (.exit 0) (zp [3] [a])) := by kernel_rfl
theorem st_balerref01_Bits {lf : Nat} {r : RT} {a : V} : evStep Tryz.prog gt lf r 61 #[a] = inside (b_balerref01_Bits lf r a) := by 
  unfold b_balerref01_Bits
  simp only [kqA_balerref01_Bits, lqA_balerref01_Bits]
  kernel_rfl

/- balerref47_begins -/
def b_balerref47_begins (lf : Nat) (r : RT) (a : V) : M V := klx a fun b => kgq b (ii 32) fun c => ifV c ((timed (ksx a none (some (ii 24)) M.ret)).bind fun d => (timed
  (kcl r 61 [(Value.string { data := #[66, 90, 104] })] M.ret)).bind fun e => keq d.1 e.1 fun f => ifV f ((timed (ksx a (some (ii 24)) (some (ii 32)) M.ret)).bind fun g
  => (timed (kcl r 63 [g.1] M.ret)).bind fun h => kgq h.1 (i3 49) fun i => ifV i ((timed (ksx a (some (ii 24)) (some (ii 32)) M.ret)).bind fun j => (timed (kcl r 63
  [j.1] M.ret)).bind fun l => klq l.1 (i3 57) fun m => chkT ((!(clash3 d.2 e.2) && true) && true) (outK [m])) ((timed (M.ret undef)).bind fun j => (timed (M.ret
  undef)).bind fun l => chkT ((!(clash3 d.2 e.2) && true) && true) (outK [bF]))) ((timed (M.ret undef)).bind fun g => (timed (M.ret undef)).bind fun h => (timed (M.ret
  undef)).bind fun i => (timed (M.ret undef)).bind fun j => chkT ((!(clash3 d.2 e.2) && true) && true) (outK [bF]))) ((timed (M.ret undef)).bind fun d => (timed (M.ret
  undef)).bind fun e => (timed (M.ret undef)).bind fun f => (timed (M.ret undef)).bind fun g => (timed (M.ret undef)).bind fun h => (timed (M.ret undef)).bind fun i =>
  chkT ((!(clash3 d.2 e.2) && true) && true) (outK [bF]))
theorem st_balerref47_begins {lf : Nat} {r : RT} {a : V} : evStep Tryz.prog gt lf r 62 #[a] = inside (b_balerref47_begins lf r a) := by kernel_rfl

/- balerref01_Number -/
def lpA_balerref01_Number (lf : Nat) (r : RT) : Nat→(V→M V)→V→V→V→V→M V
  | 0, _, _, _, _, _ => .fail
  | fu + 1, k, a, b, c, d => klx a fun e => kls d e fun f => ifV f (kml (i3 2) c fun e => kit a d fun g => ksb g (i1 48) fun h => kcv .u32 h fun i => kad e i fun j =>
   kad d (ii 1) fun c => lpA_balerref01_Number lf r fu k a b j c) (k c)
def sA_balerref01_Number : List Nat := [0, 2, 3, 4]
def kcA_balerref01_Number (lf : Nat) (r : RT) : (V→M V) := fun a => outK [a]
def b_balerref01_Number (lf : Nat) (r : RT) (a : V) : M V := lpA_balerref01_Number lf r lf (kcA_balerref01_Number lf r) a (i3 0) (i3 0) (ii 0)
theorem lqA_balerref01_Number {lf : Nat} {r : RT} (K : KT) : ∀ fu, lpA_balerref01_Number lf r fu (fun a => K (.exit 0) (zp [3] [a])) = fun a b c d => loopK (cQ 63 (pb 6
  11) lf r) sA_balerref01_Number fu (zp sA_balerref01_Number [a, b, c, d]) K
  | 0 => by funext a b c d; kernel_rfl
  | fu + 1 => by
    have ih := lqA_balerref01_Number (lf := lf) (r := r) K fu
    funext a b c d
    rw [lpA_balerref01_Number]
    simp only [ih]
    kernel_rfl
theorem kqA_balerref01_Number {lf : Nat} {r : RT} : kcA_balerref01_Number lf r = (fun a => (tK 63 (pb 5 11) lf r) (.exit 0) (zp [3] [a])) := by kernel_rfl
theorem st_balerref01_Number {lf : Nat} {r : RT} {a : V} : evStep Tryz.prog gt lf r 63 #[a] = inside (b_balerref01_Number lf r a) := by 
  unfold b_balerref01_Number
  simp only [kqA_balerref01_Number, lqA_balerref01_Number]
  kernel_rfl

/- balerref47_blocks -/
def lpA_balerref47_blocks (lf : Nat) (r : RT) : Nat→((V→M V) × (V→M V))→V→V→V→V→V→V→V→V→M V
  | 0, _, _, _, _, _, _, _, _, _ => .fail
  | fu + 1, k, a, b, c, d, e, f, g, h => kls h g fun i => ifV i (klx a fun j => ksb j b fun l => kls l (ii 48) fun m => ifV m (k.2 e) (kad b (ii 48) fun j => ksx a (some
   b) (some j) fun l => keq l (Value.string { data := #[48, 48, 48, 49, 48, 49, 49, 49, 48, 49, 49, 49, 48, 48, 49, 48, 48, 49, 48, 48, 48, 49, 48, 49, 48, 48, 49, 49,
   49, 48, 48, 48, 48, 49, 48, 49, 48, 48, 48, 48, 49, 48, 48, 49, 48, 48, 48, 48] }) fun j => ifV j (klx a fun n => ksb n b fun o => kgq o (ii 80) fun p => ifV p (kad b
   (ii 48) fun q => kad b (ii 80) fun s => ksx a (some q) (some s) fun t => kcl r 63 [t] fun u => kcl r 25 [f] fun v => keq u v fun w => ifV w (kad b (ii 80) fun j =>
   kcl r 25 [f] fun n => kbd z34 [(0, 1, (ii 3)), (2, 1, b), (3, 1, j), (4, 1, n)] fun o => kb1 34 8 o fun p => kap 34 8 e p fun q => k.2 q) (kne l (Value.string { data
   := #[48, 48, 49, 49, 48, 48, 48, 49, 48, 49, 48, 48, 48, 48, 48, 49, 48, 49, 48, 49, 49, 48, 48, 49, 48, 48, 49, 48, 48, 49, 49, 48, 48, 49, 48, 49, 48, 48, 49, 49,
   48, 49, 48, 49, 49, 48, 48, 49] }) fun j => ifV j (k.2 e) (kad b (ii 48) fun n => ksx a (some n) none fun o => kcl r 104 [o, c] fun p => kal 159 z159 fun q => ksg 6 q
   p fun _ => kfa 5 q fun n => kld n fun o => kne o (ii 0) fun p => ifV p (k.2 e) (kfa 0 q fun n => klg 3 n fun o => kcl r 105 [o] fun s => kex s 0 fun t => kex s 1 fun
   u => kne u (ii 0) fun n => ifV n (k.2 e) (kad b (ii 48) fun o => kfa 3 q fun s => kld s fun v => kad o v fun x => kfa 0 q fun o => kfa 2 o fun s => kld s fun v => kfa
   0 q fun y => kfa 1 y fun z => kld z fun A => kfa 0 q fun B => kfa 0 B fun C => kld C fun D => klx D fun E => klx t fun G => kbd z34 [(0, 1, (ii 2)), (2, 1, b), (3, 1,
   x), (4, 1, v), (5, 1, A), (6, 1, E), (7, 1, G)] fun J => kb1 34 8 J fun L => kap 34 8 e L fun N => kfa 0 q fun e => kfa 2 e fun o => kld o fun s => kb1 31 1 s fun v
   => kap 31 1 f v fun y => kad h (ii 1) fun b => lpA_balerref47_blocks lf r fu k a x c d N y g b))))) (kne l (Value.string { data := #[48, 48, 49, 49, 48, 48, 48, 49,
   48, 49, 48, 48, 48, 48, 48, 49, 48, 49, 48, 49, 49, 48, 48, 49, 48, 48, 49, 48, 48, 49, 49, 48, 48, 49, 48, 49, 48, 48, 49, 49, 48, 49, 48, 49, 49, 48, 48, 49] }) fun
   j => ifV j (k.2 e) (kad b (ii 48) fun n => ksx a (some n) none fun o => kcl r 104 [o, c] fun p => kal 159 z159 fun q => ksg 6 q p fun _ => kfa 5 q fun n => kld n fun
   o => kne o (ii 0) fun p => ifV p (k.2 e) (kfa 0 q fun n => klg 3 n fun o => kcl r 105 [o] fun s => kex s 0 fun t => kex s 1 fun u => kne u (ii 0) fun n => ifV n (k.2
   e) (kad b (ii 48) fun o => kfa 3 q fun s => kld s fun v => kad o v fun w => kfa 0 q fun o => kfa 2 o fun s => kld s fun v => kfa 0 q fun x => kfa 1 x fun y => kld y
   fun z => kfa 0 q fun A => kfa 0 A fun B => kld B fun C => klx C fun D => klx t fun E => kbd z34 [(0, 1, (ii 2)), (2, 1, b), (3, 1, w), (4, 1, v), (5, 1, z), (6, 1,
   D), (7, 1, E)] fun G => kb1 34 8 G fun J => kap 34 8 e J fun L => kfa 0 q fun e => kfa 2 e fun o => kld o fun s => kb1 31 1 s fun v => kap 31 1 f v fun x => kad h (ii
   1) fun b => lpA_balerref47_blocks lf r fu k a w c d L x g b))))) (kne l (Value.string { data := #[48, 48, 49, 49, 48, 48, 48, 49, 48, 49, 48, 48, 48, 48, 48, 49, 48,
   49, 48, 49, 49, 48, 48, 49, 48, 48, 49, 48, 48, 49, 49, 48, 48, 49, 48, 49, 48, 48, 49, 49, 48, 49, 48, 49, 49, 48, 48, 49] }) fun j => ifV j (k.2 e) (kad b (ii 48)
   fun n => ksx a (some n) none fun o => kcl r 104 [o, c] fun p => kal 159 z159 fun q => ksg 6 q p fun _ => kfa 5 q fun n => kld n fun o => kne o (ii 0) fun p => ifV p
   (k.2 e) (kfa 0 q fun n => klg 3 n fun o => kcl r 105 [o] fun s => kex s 0 fun t => kex s 1 fun u => kne u (ii 0) fun n => ifV n (k.2 e) (kad b (ii 48) fun o => kfa 3
   q fun s => kld s fun v => kad o v fun w => kfa 0 q fun o => kfa 2 o fun s => kld s fun v => kfa 0 q fun x => kfa 1 x fun y => kld y fun z => kfa 0 q fun A => kfa 0 A
   fun B => kld B fun C => klx C fun D => klx t fun E => kbd z34 [(0, 1, (ii 2)), (2, 1, b), (3, 1, w), (4, 1, v), (5, 1, z), (6, 1, D), (7, 1, E)] fun G => kb1 34 8 G
   fun J => kap 34 8 e J fun L => kfa 0 q fun e => kfa 2 e fun o => kld o fun s => kb1 31 1 s fun v => kap 31 1 f v fun x => kad h (ii 1) fun b => lpA_balerref47_blocks lf r fu k a w c d L x g b)))))) (k.1 e)
def sA_balerref47_blocks : List Nat := [0, 1, 2, 6, 7, 8, 15, 16]
def kcA_balerref47_blocks (lf : Nat) (r : RT) : (V→M V) × (V→M V) := (fun a => outK [a], fun a => outK [a])
def b_balerref47_blocks (lf : Nat) (r : RT) (a b c : V) : M V := klx a fun d => lpA_balerref47_blocks lf r lf (kcA_balerref47_blocks lf r) a b c nS nS nS d (ii 0)
theorem lqA_balerref47_blocks {lf : Nat} {r : RT} (K : KT) : ∀ fu, lpA_balerref47_blocks lf r fu ((fun a => K (.exit 0) (zp [7] [a]), fun a => K .ret (zp [6] [a]))) =
  fun a b c d e f g h => loopK (cQ 64 (pb 7 23) lf r) sA_balerref47_blocks fu (zp sA_balerref47_blocks [a, b, c, d, e, f, g, h]) K
  | 0 => by funext a b c d e f g h; kernel_rfl
  | fu + 1 => by
    have ih := lqA_balerref47_blocks (lf := lf) (r := r) K fu
    funext a b c d e f g h
    rw [lpA_balerref47_blocks]
    simp only [ih]
    kernel_rfl
theorem kqA_balerref47_blocks {lf : Nat} {r : RT} : kcA_balerref47_blocks lf r = ((fun a => (tK 64 (pb 6 23) lf r) (.exit 0) (zp [7] [a]), fun a => (tK 64 (pb 6 23) lf r) .ret (zp [6] [a]))) := by kernel_rfl
theorem st_balerref47_blocks {lf : Nat} {r : RT} {a b c : V} : evStep Tryz.prog gt lf r 64 #[a, b, c] = inside (b_balerref47_blocks lf r a b c) := by 
  unfold b_balerref47_blocks
  simp only [kqA_balerref47_blocks, lqA_balerref47_blocks]
  kernel_rfl

/- inspect_words -/
def lpA_inspect_words (lf : Nat) (r : RT) : Nat→(V→M V)→V→V→V→V→V→V→M V
  | 0, _, _, _, _, _, _, _ => .fail
  | fu + 1, k, a, b, c, d, e, f => kls f e fun g => ifV g (kix d f fun h => kld h fun i => kcl r 107 [i] fun h => kad (Value.string { data := #[32] }) h fun j => kad a j
   fun l => kad f (ii 1) fun a => lpA_inspect_words lf r fu k l b c d e a) (k a)
def sA_inspect_words : List Nat := [0, 1, 4, 7, 8, 9]
def kcA_inspect_words (lf : Nat) (r : RT) : (V→M V) := fun a => outK [a]
def b_inspect_words (lf : Nat) (r : RT) (a b : V) : M V := kln b fun c => lpA_inspect_words lf r lf (kcA_inspect_words lf r) a b (Value.string { data := #[] }) b c (ii 0)
theorem lqA_inspect_words {lf : Nat} {r : RT} (K : KT) : ∀ fu, lpA_inspect_words lf r fu (fun a => K (.exit 0) (zp [0] [a])) = fun a b c d e f => loopK (cQ 67 (pb 5 5)
  lf r) sA_inspect_words fu (zp sA_inspect_words [a, b, c, d, e, f]) K
  | 0 => by funext a b c d e f; kernel_rfl
  | fu + 1 => by
    have ih := lqA_inspect_words (lf := lf) (r := r) K fu
    funext a b c d e f
    rw [lpA_inspect_words]
    simp only [ih]
    kernel_rfl
theorem kqA_inspect_words {lf : Nat} {r : RT} : kcA_inspect_words lf r = (fun a => (tK 67 (pb 4 5) lf r) (.exit 0) (zp [0] [a])) := by kernel_rfl
theorem st_inspect_words {lf : Nat} {r : RT} {a b : V} : evStep Tryz.prog gt lf r 67 #[a, b] = inside (b_inspect_words lf r a b) := by 
  unfold b_inspect_words
  simp only [kqA_inspect_words, lqA_inspect_words]
  kernel_rfl

/- balerref47_words -/
def lpA_balerref47_words (lf : Nat) (r : RT) : Nat→(V→M V)→V→V→V→V→V→V→M V
  | 0, _, _, _, _, _, _, _ => .fail
  | fu + 1, k, a, b, c, d, e, f => kls f e fun g => ifV g (kix d f fun h => kld h fun i => kad a (Value.string { data := #[32] }) fun h => kcl r 52 [i] fun j => kad h j
   fun l => kad f (ii 1) fun a => lpA_balerref47_words lf r fu k l b c d e a) (k a)
def sA_balerref47_words : List Nat := [0, 1, 4, 7, 8, 9]
def kcA_balerref47_words (lf : Nat) (r : RT) : (V→M V) := fun a => outK [a]
def b_balerref47_words (lf : Nat) (r : RT) (a b : V) : M V := kln b fun c => lpA_balerref47_words lf r lf (kcA_balerref47_words lf r) a b (Value.string { data := #[] }) b c (ii 0)
theorem lqA_balerref47_words {lf : Nat} {r : RT} (K : KT) : ∀ fu, lpA_balerref47_words lf r fu (fun a => K (.exit 0) (zp [0] [a])) = fun a b c d e f => loopK (cQ 69 (pb
  5 5) lf r) sA_balerref47_words fu (zp sA_balerref47_words [a, b, c, d, e, f]) K
  | 0 => by funext a b c d e f; kernel_rfl
  | fu + 1 => by
    have ih := lqA_balerref47_words (lf := lf) (r := r) K fu
    funext a b c d e f
    rw [lpA_balerref47_words]
    simp only [ih]
    kernel_rfl
theorem kqA_balerref47_words {lf : Nat} {r : RT} : kcA_balerref47_words lf r = (fun a => (tK 69 (pb 4 5) lf r) (.exit 0) (zp [0] [a])) := by kernel_rfl
theorem st_balerref47_words {lf : Nat} {r : RT} {a b : V} : evStep Tryz.prog gt lf r 69 #[a, b] = inside (b_balerref47_words lf r a b) := by 
  unfold b_balerref47_words
  simp only [kqA_balerref47_words, lqA_balerref47_words]
  kernel_rfl

/- balerref47_hex -/
def lpA_balerref47_hex (lf : Nat) (r : RT) : Nat→(V→M V)→V→V→V→V→M V
  | 0, _, _, _, _, _ => .fail
  | fu + 1, k, a, b, c, d => kls d (ii 8) fun e => ifV e (krm a (i3 16) fun f => krm a (i3 16) fun g => kad g (i3 1) fun h => ksx (Value.string { data := #[48, 49, 50,
   51, 52, 53, 54, 55, 56, 57, 97, 98, 99, 100, 101, 102] }) (some f) (some h) fun i => kad i c fun j => kqu a (i3 16) fun c => kad d (ii 1) fun a => lpA_balerref47_hex lf r fu k c b j a) (k c)
def sA_balerref47_hex : List Nat := [0, 2, 3, 4]
def kcA_balerref47_hex (lf : Nat) (r : RT) : (V→M V) := fun a => outK [a]
def b_balerref47_hex (lf : Nat) (r : RT) (a : V) : M V := lpA_balerref47_hex lf r lf (kcA_balerref47_hex lf r) a (Value.string { data := #[] }) (Value.string { data := #[] }) (ii 0)
theorem lqA_balerref47_hex {lf : Nat} {r : RT} (K : KT) : ∀ fu, lpA_balerref47_hex lf r fu (fun a => K (.exit 0) (zp [3] [a])) = fun a b c d => loopK (cQ 70 (pb 6 11) lf
  r) sA_balerref47_hex fu (zp sA_balerref47_hex [a, b, c, d]) K
  | 0 => by funext a b c d; kernel_rfl
  | fu + 1 => by
    have ih := lqA_balerref47_hex (lf := lf) (r := r) K fu
    funext a b c d
    rw [lpA_balerref47_hex]
    simp only [ih]
    kernel_rfl
theorem kqA_balerref47_hex {lf : Nat} {r : RT} : kcA_balerref47_hex lf r = (fun a => (tK 70 (pb 5 11) lf r) (.exit 0) (zp [3] [a])) := by kernel_rfl
theorem st_balerref47_hex {lf : Nat} {r : RT} {a : V} : evStep Tryz.prog gt lf r 70 #[a] = inside (b_balerref47_hex lf r a) := by 
  unfold b_balerref47_hex
  simp only [kqA_balerref47_hex, lqA_balerref47_hex]
  kernel_rfl

/- inspect_together -/
def b_inspect_together (lf : Nat) (r : RT) (a b : V) : M V := kma b (ii 0) fun c => kmi c (ii 1099511627776) fun d => kad a d fun e => kmi e (ii 1099511627776) fun f => outK [f]
theorem st_inspect_together {lf : Nat} {r : RT} {a b : V} : evStep Tryz.prog gt lf r 71 #[a, b] = inside (b_inspect_together lf r a b) := by kernel_rfl

/- balerref21_Head -/
def b_balerref21_Head (lf : Nat) (r : RT) (a : V) : M V := kad a (ii 1) fun b => ksx (Value.string { data := #[48, 49, 50, 51, 52, 53, 54, 55, 56, 57] }) (some a) (some
  b) fun c => kad (Value.string { data := #[66, 90, 104] }) c fun d => kcl r 61 [d] fun e => outK [e]
theorem st_balerref21_Head {lf : Nat} {r : RT} {a : V} : evStep Tryz.prog gt lf r 72 #[a] = inside (b_balerref21_Head lf r a) := by kernel_rfl

/- balerref19_Of -/
def lpB_balerref19_Of (lf : Nat) (r : RT) : Nat→(V→V→V→V→V→V→V→V→M V)→V→V→V→V→V→V→V→V→V→V→V→V→V→V→M V
  | 0, _, _, _, _, _, _, _, _, _, _, _, _, _, _, _ => .fail
  | fu + 1, k, a, b, c, d, e, f, g, h, i, j, l, m, n, o => kls o n fun p => ifV p (kfa 1 e fun q => kld q fun s => kfa 0 f fun t => kld t fun u => kb1 5 1 u fun v => kts
   v fun w => kad s w fun x => kfa 1 e fun y => kst y x fun _ => kad o (ii 1) fun q => lpB_balerref19_Of lf r fu k a b c d e f g h i j l m n q) (k a b c d e h i j)
def sB_balerref19_Of : List Nat := [0, 1, 4, 5, 6, 8, 9, 12, 13, 14, 15, 27, 39, 40]
def KBB_balerref19_Of (lf : Nat) (r : RT) (k : (V→V→M V)) (again : V→V→V→V→V→V→V→V→M V) : (V→V→V→V→V→V→V→V→M V) := fun a b c d e f g h => kad h (ii 1) fun i => again a b c d e f g i
def lpA_balerref19_Of (lf : Nat) (r : RT) : Nat→(V→V→M V)→V→V→V→V→V→V→V→V→M V
  | 0, _, _, _, _, _, _, _, _, _ => .fail
  | fu + 1, k, a, b, c, d, e, f, g, h => kls h g fun i => ifV i (kiy 2 f h fun j => klg 2 j fun l => kal 168 z168 fun m => ksg 2 m l fun _ => klg 2 m fun j => kcl r 109
   [j] fun l => kfa 0 e fun j => kld j fun n => klx n fun o => klx l fun p => kad o p fun q => kgr q b fun s => (fun n => ifV s (klg 2 e fun j => kb1 120 2 j fun o =>
   kap 120 2 d o fun p => kbd z120 [] fun j => ksg 2 e j fun _ => n p) (n d)) fun d => kfa 0 e fun j => kld j fun n => kad n l fun o => kfa 0 e fun p => kst p o fun _ =>
   kfa 1 m fun j => kld j fun n => lpB_balerref19_Of lf r lf (KBB_balerref19_Of lf r k (lpA_balerref19_Of lf r fu k)) a b c d e m l f g h i s n (ii 0)) (k d e)
def sA_balerref19_Of : List Nat := [0, 1, 4, 5, 6, 12, 13, 14]
abbrev kcB_balerref19_Of (lf : Nat) (r : RT) (fu : Nat) (k : (V→V→M V)) : (V→V→V→V→V→V→V→V→M V) := KBB_balerref19_Of lf r k (lpA_balerref19_Of lf r fu k)
def kcA_balerref19_Of (lf : Nat) (r : RT) : (V→V→M V) := fun a b => kfa 0 b fun c => kld c fun d => klx d fun e => kgr e (ii 0) fun f => ifV f (klg 2 b fun c => kb1 120
  2 c fun d => kap 120 2 a d fun e => outK [e]) (outK [a])
def b_balerref19_Of (lf : Nat) (r : RT) (a b : V) : M V := kbd z120 [] fun c => kal 120 z120 fun d => ksg 2 d c fun _ => kcl r 108 [a] fun c => kln c fun e =>
  lpA_balerref19_Of lf r lf (kcA_balerref19_Of lf r) a b nS nS d c e (ii 0)
theorem lqB_balerref19_Of {lf : Nat} {r : RT} (K : KT) : ∀ fu, lpB_balerref19_Of lf r fu (fun a b c d e f g h => K (.exit 2) (zp [0, 1, 4, 5, 6, 12, 13, 14] [a, b, c, d,
  e, f, g, h])) = fun a b c d e f g h i j l m n o => loopK (cQ 73 (pb 18 63895) lf r) sB_balerref19_Of fu (zp sB_balerref19_Of [a, b, c, d, e, f, g, h, i, j, l, m, n, o]) K
  | 0 => by funext a b c d e f g h i j l m n o; kernel_rfl
  | fu + 1 => by
    have ih := lqB_balerref19_Of (lf := lf) (r := r) K fu
    funext a b c d e f g h i j l m n o
    rw [lpB_balerref19_Of]
    simp only [ih]
    kernel_rfl
theorem kqB_balerref19_Of {lf : Nat} {r : RT} (K : KT) (fu : Nat) : KBB_balerref19_Of lf r (fun a b => K (.exit 0) (zp [5, 6] [a, b])) (fun a b c d e f g h => loopK (cQ
  73 (pb 7 23) lf r) sA_balerref19_Of fu (zp sA_balerref19_Of [a, b, c, d, e, f, g, h]) K) = (fun a b c d e f g h => (iK 73 (pb 7 23) (pb 10 499) sA_balerref19_Of fu K
  lf r) (.exit 2) (zp [0, 1, 4, 5, 6, 12, 13, 14] [a, b, c, d, e, f, g, h])) := by kernel_rfl
theorem lqA_balerref19_Of {lf : Nat} {r : RT} (K : KT) : ∀ fu, lpA_balerref19_Of lf r fu (fun a b => K (.exit 0) (zp [5, 6] [a, b])) = fun a b c d e f g h => loopK (cQ
  73 (pb 7 23) lf r) sA_balerref19_Of fu (zp sA_balerref19_Of [a, b, c, d, e, f, g, h]) K
  | 0 => by funext a b c d e f g h; kernel_rfl
  | fu + 1 => by
    have ih := lqA_balerref19_Of (lf := lf) (r := r) K fu
    funext a b c d e f g h
    rw [lpA_balerref19_Of]
    simp only [ih, kqB_balerref19_Of, lqB_balerref19_Of]
    kernel_rfl
theorem kqA_balerref19_Of {lf : Nat} {r : RT} : kcA_balerref19_Of lf r = (fun a b => (tK 73 (pb 6 23) lf r) (.exit 0) (zp [5, 6] [a, b])) := by kernel_rfl
theorem st_balerref19_Of {lf : Nat} {r : RT} {a b : V} : evStep Tryz.prog gt lf r 73 #[a, b] = inside (b_balerref19_Of lf r a b) := by 
  unfold b_balerref19_Of
  simp only [kqA_balerref19_Of, lqA_balerref19_Of]
  kernel_rfl

/- balerref20_Write -/
def b_balerref20_Write (lf : Nat) (r : RT) (a b : V) : M V := kcl r 110 [a] fun c => kal 171 z171 fun d => ksg 2 d c fun _ => kfa 0 d fun c => kld c fun e => kfa 1 d fun
  f => kld f fun g => kbd z157 [(0, 1, e), (1, 1, g), (2, 1, b)] fun h => kcl r 111 [h] fun i => outK [i]
theorem st_balerref20_Write {lf : Nat} {r : RT} {a b : V} : evStep Tryz.prog gt lf r 74 #[a, b] = inside (b_balerref20_Write lf r a b) := by kernel_rfl

/- balerref19_Block_Sum -/
def b_balerref19_Block_Sum (lf : Nat) (r : RT) (a : V) : M V := kbx 120 a fun b => kfa 1 b fun c => kld c fun d => kcl r 112 [d] fun e => outK [e]
theorem st_balerref19_Block_Sum {lf : Nat} {r : RT} {a : V} : evStep Tryz.prog gt lf r 75 #[a] = inside (b_balerref19_Block_Sum lf r a) := by kernel_rfl

/- balerref01_Pack -/
def b_balerref01_Pack (lf : Nat) (r : RT) (a : V) : M V := kcl r 114 [a] fun b => kcl r 113 [b] fun c => outK [c]
theorem st_balerref01_Pack {lf : Nat} {r : RT} {a : V} : evStep Tryz.prog gt lf r 76 #[a] = inside (b_balerref01_Pack lf r a) := by kernel_rfl

/- balerref21_Tail -/
def b_balerref21_Tail (lf : Nat) (r : RT) (a : V) : M V := kcl r 25 [a] fun b => kcl r 103 [b, (ii 32)] fun c => kad (Value.string { data := #[48, 48, 48, 49, 48, 49,
  49, 49, 48, 49, 49, 49, 48, 48, 49, 48, 48, 49, 48, 48, 48, 49, 48, 49, 48, 48, 49, 49, 49, 48, 48, 48, 48, 49, 48, 49, 48, 48, 48, 48, 49, 48, 48, 49, 48, 48, 48, 48] }) c fun d => outK [d]
theorem st_balerref21_Tail {lf : Nat} {r : RT} {a : V} : evStep Tryz.prog gt lf r 77 #[a] = inside (b_balerref21_Tail lf r a) := by kernel_rfl

/- balerref02_Combine -/
def b_balerref02_Combine (lf : Nat) (r : RT) (a b : V) : M V := kml a (i3 2) fun c => kgq a (i3 2147483648) fun d => ifV d (kad c (i3 1) fun e => kxo e b fun c => outK [c]) (kxo c b fun e => outK [e])
theorem st_balerref02_Combine {lf : Nat} {r : RT} {a b : V} : evStep Tryz.prog gt lf r 78 #[a, b] = inside (b_balerref02_Combine lf r a b) := by kernel_rfl

/- balerref22_begins -/
def lpA_balerref22_begins (lf : Nat) (r : RT) : Nat→((M V) × (V→M V))→V→V→V→V→M V
  | 0, _, _, _, _, _ => .fail
  | fu + 1, k, a, b, c, d => kls d (ii 4) fun e => ifV e (klx a fun f => kml (ii 8) d fun g => kad g (ii 8) fun h => kls f h fun i => ifV i (k.2 (ii 24)) (kml (ii 8) d
   fun f => kml (ii 8) d fun g => kad g (ii 8) fun h => ksx a (some f) (some h) fun j => kls d (ii 3) fun f => ifV f (kml (ii 8) d fun g => kml (ii 8) d fun h => kad h
   (ii 8) fun l => ksx c (some g) (some l) fun m => kne j m fun n => ifV n (k.2 (ii 20)) (keq d (ii 3) fun f => ifV f (kcl r 63 [j] fun g => kls g (i3 49) fun h => ifV h
   (k.2 (ii 20)) (kcl r 63 [j] fun l => kgr l (i3 57) fun m => ifV m (k.2 (ii 20)) (kad d (ii 1) fun f => lpA_balerref22_begins lf r fu k a b c f))) (kad d (ii 1) fun f
   => lpA_balerref22_begins lf r fu k a b c f))) (keq d (ii 3) fun f => ifV f (kcl r 63 [j] fun g => kls g (i3 49) fun h => ifV h (k.2 (ii 20)) (kcl r 63 [j] fun l =>
   kgr l (i3 57) fun m => ifV m (k.2 (ii 20)) (kad d (ii 1) fun f => lpA_balerref22_begins lf r fu k a b c f))) (kad d (ii 1) fun f => lpA_balerref22_begins lf r fu k a b c f)))) (k.1)
def sA_balerref22_begins : List Nat := [0, 2, 3, 7]
def kcA_balerref22_begins (lf : Nat) (r : RT) : (M V) × (V→M V) := (outK [(ii 0)], fun a => outK [a])
def b_balerref22_begins (lf : Nat) (r : RT) (a : V) : M V := kcl r 61 [(Value.string { data := #[66, 90, 104] })] fun b => lpA_balerref22_begins lf r lf (kcA_balerref22_begins lf r) a (ii 0) b (ii 0)
theorem lqA_balerref22_begins {lf : Nat} {r : RT} (K : KT) : ∀ fu, lpA_balerref22_begins lf r fu ((K (.exit 0) [], fun a => K .ret (zp [2] [a]))) = fun a b c d => loopK
  (cQ 79 (pb 6 11) lf r) sA_balerref22_begins fu (zp sA_balerref22_begins [a, b, c, d]) K
  | 0 => by funext a b c d; kernel_rfl
  | fu + 1 => by
    have ih := lqA_balerref22_begins (lf := lf) (r := r) K fu
    funext a b c d
    rw [lpA_balerref22_begins]
    simp only [ih]
    kernel_rfl
theorem kqA_balerref22_begins {lf : Nat} {r : RT} : kcA_balerref22_begins lf r = (((tK 79 (pb 5 11) lf r) (.exit 0) [], fun a => (tK 79 (pb 5 11) lf r) .ret (zp [2] [a]))) := by kernel_rfl
theorem st_balerref22_begins {lf : Nat} {r : RT} {a : V} : evStep Tryz.prog gt lf r 79 #[a] = inside (b_balerref22_begins lf r a) := by 
  unfold b_balerref22_begins
  simp only [kqA_balerref22_begins, lqA_balerref22_begins]
  kernel_rfl

/- balerref22_one -/
def lpA_balerref22_one (lf : Nat) (r : RT) : Nat→((V→M V) × (V→M V))→V→V→V→V→V→V→V→M V
  | 0, _, _, _, _, _, _, _, _ => .fail
  | fu + 1, k, a, b, c, d, e, f, g => kls g f fun h => ifV h (klx a fun i => kfa 1 d fun j => kld j fun l => ksb i l fun m => kls m (ii 48) fun n => ifV n (kbd z126 [(2,
   1, (ii 24))] fun i => ksg 3 c i fun _ => k.2 c) (kfa 1 d fun i => kld i fun j => kfa 1 d fun l => kld l fun m => kad m (ii 48) fun o => ksx a (some j) (some o) fun p
   => kfa 1 d fun i => kld i fun j => kad j (ii 48) fun l => keq p (Value.string { data := #[48, 48, 48, 49, 48, 49, 49, 49, 48, 49, 49, 49, 48, 48, 49, 48, 48, 49, 48,
   48, 48, 49, 48, 49, 48, 48, 49, 49, 49, 48, 48, 48, 48, 49, 48, 49, 48, 48, 48, 48, 49, 48, 48, 49, 48, 48, 48, 48] }) fun i => ifV i (klx a fun j => ksb j l fun m =>
   kls m (ii 32) fun o => ifV o (kbd z126 [(2, 1, (ii 24))] fun j => ksg 3 c j fun _ => k.2 c) (kad l (ii 32) fun j => ksx a (some l) (some j) fun m => kcl r 63 [m] fun
   q => kcl r 25 [e] fun s => kne q s fun t => ifV t (kbd z126 [(2, 1, (ii 21))] fun j => ksg 3 c j fun _ => k.2 c) (kfa 0 d fun j => kld j fun m => kad l (ii 32) fun q
   => kbd z126 [(0, 1, m), (1, 1, q)] fun s => ksg 3 c s fun _ => k.2 c))) (kne p (Value.string { data := #[48, 48, 49, 49, 48, 48, 48, 49, 48, 49, 48, 48, 48, 48, 48,
   49, 48, 49, 48, 49, 49, 48, 48, 49, 48, 48, 49, 48, 48, 49, 49, 48, 48, 49, 48, 49, 48, 48, 49, 49, 48, 49, 48, 49, 49, 48, 48, 49] }) fun j => ifV j (kbd z126 [(2,
   1, (ii 20))] fun m => ksg 3 c m fun _ => k.2 c) (ksx a (some l) none fun m => kcl r 104 [m, b] fun o => kal 159 z159 fun q => ksg 6 q o fun _ => kfa 5 q fun m => kld
   m fun o => keq o (ii 3) fun s => ifV s (kbd z126 [(2, 1, (ii 24))] fun m => ksg 3 c m fun _ => k.2 c) (kfa 5 q fun m => kld m fun o => kne o (ii 0) fun t => ifV t
   (kfa 5 q fun m => kld m fun o => kbd z126 [(2, 1, o)] fun u => ksg 3 c u fun _ => k.2 c) (kfa 0 q fun m => klg 3 m fun o => kcl r 105 [o] fun u => kex u 0 fun v =>
   kex u 1 fun w => kne w (ii 0) fun m => ifV m (kbd z126 [(2, 1, w)] fun o => ksg 3 c o fun _ => k.2 c) (kfa 0 q fun o => kfa 2 o fun u => kld u fun x => kb1 31 1 x fun
   y => kap 31 1 e y fun z => kfa 0 d fun e => kld e fun o => kad o v fun u => kfa 3 q fun x => kld x fun y => kad l y fun A => kbd z126 [(0, 1, u), (1, 1, A)] fun B =>
   ksg 3 d B fun _ => kad g (ii 1) fun e => lpA_balerref22_one lf r fu k a b c d z f e))))))) (k.1 c)
def sA_balerref22_one : List Nat := [0, 1, 4, 5, 6, 15, 16]
def kcA_balerref22_one (lf : Nat) (r : RT) : (V→M V) × (V→M V) := (fun a => kbd z126 [(2, 1, (ii 24))] fun b => ksg 3 a b fun _ => klg 3 a fun b => outK [b], fun a => klg 3 a fun b => outK [b])
def b_balerref22_one (lf : Nat) (r : RT) (a b : V) : M V := kal 126 z126 fun c => kbd z126 [] fun d => kal 126 z126 fun e => ksg 3 e d fun _ => klx a fun d => kad d (ii
  1) fun f => lpA_balerref22_one lf r lf (kcA_balerref22_one lf r) a b c e nS f (ii 0)
theorem lqA_balerref22_one {lf : Nat} {r : RT} (K : KT) : ∀ fu, lpA_balerref22_one lf r fu ((fun a => K (.exit 0) (zp [4] [a]), fun a => K .ret (zp [4] [a]))) = fun a b
  c d e f g => loopK (cQ 80 (pb 7 23) lf r) sA_balerref22_one fu (zp sA_balerref22_one [a, b, c, d, e, f, g]) K
  | 0 => by funext a b c d e f g; kernel_rfl
  | fu + 1 => by
    have ih := lqA_balerref22_one (lf := lf) (r := r) K fu
    funext a b c d e f g
    rw [lpA_balerref22_one]
    simp only [ih]
    kernel_rfl
theorem kqA_balerref22_one {lf : Nat} {r : RT} : kcA_balerref22_one lf r = ((fun a => (tK 80 (pb 6 23) lf r) (.exit 0) (zp [4] [a]), fun a => (tK 80 (pb 6 23) lf r) .ret (zp [4] [a]))) := by kernel_rfl
theorem st_balerref22_one {lf : Nat} {r : RT} {a b : V} : evStep Tryz.prog gt lf r 80 #[a, b] = inside (b_balerref22_one lf r a b) := by 
  unfold b_balerref22_one
  simp only [kqA_balerref22_one, lqA_balerref22_one]
  kernel_rfl

/- balerref24_May -/
def b_balerref24_May (lf : Nat) (r : RT) (a b c : V) : M V := kcl r 14 [a] fun d => ifV d (kgq b (ii 64) fun e => ifV e (klq b (ii 1048576) fun f => ifV f (kgq c (ii 1)
  fun g => ifV g (klq c (ii 65536) fun h => outK [h]) (outK [bF])) (outK [bF])) (outK [bF])) (outK [bF])
theorem st_balerref24_May {lf : Nat} {r : RT} {a b c : V} : evStep Tryz.prog gt lf r 81 #[a, b, c] = inside (b_balerref24_May lf r a b c) := by kernel_rfl

/- unpress_Expander_End -/
def b_unpress_Expander_End (lf : Nat) (r : RT) (a : V) : M V := kpe a nP fun b => ifV b (outK [(ii 7)]) (knn a fun c => kfa 2 c fun d => kld d fun e => ifV e (outK [(ii
  7)]) (knn a fun b => kfa 2 b fun c => kst c bT fun _ => knn a fun b => kfa 6 b fun c => kst c bF fun _ => outK [(ii 0)]))
theorem st_unpress_Expander_End {lf : Nat} {r : RT} {a : V} : evStep Tryz.prog gt lf r 82 #[a] = inside (b_unpress_Expander_End lf r a) := by kernel_rfl

/- unpress_Expander_Take -/
def b_unpress_Expander_Take (lf : Nat) (r : RT) (a b : V) : M V := kpe a nP fun c => ifV c (outK [(Value.string { data := #[] })]) (kls b (ii 1) fun d => ifV d (outK
  [(Value.string { data := #[] })]) (knn a fun c => kfa 7 c fun e => kld e fun f => kln f fun g => kmi b g fun h => knn a fun c => kfa 7 c fun e => kld e fun f => ksc 5
  1 f none (some h) fun g => kts g fun i => knn a fun c => kfa 7 c fun e => kld e fun f => ksc 5 1 f (some h) none fun g => knn a fun j => kfa 7 j fun l => kst l g fun _ => outK [i]))
theorem st_unpress_Expander_Take {lf : Nat} {r : RT} {a b : V} : evStep Tryz.prog gt lf r 83 #[a, b] = inside (b_unpress_Expander_Take lf r a b) := by kernel_rfl

/- unpress_may -/
def b_unpress_may (lf : Nat) (r : RT) (a b : V) : M V := kgq a (ii 64) fun c => ifV c (klq a (ii 1048576) fun d => ifV d (kgq b (ii 1) fun e => ifV e (klq b (ii 65536)
  fun f => outK [f]) (outK [bF])) (outK [bF])) (outK [bF])
theorem st_unpress_may {lf : Nat} {r : RT} {a b : V} : evStep Tryz.prog gt lf r 84 #[a, b] = inside (b_unpress_may lf r a b) := by kernel_rfl

/- bits_Reader_Held -/
def b_bits_Reader_Held (lf : Nat) (r : RT) (a : V) : M V := kpe a nP fun b => ifV b (outK [(ii 0)]) (knn a fun c => kfa 0 c fun d => kld d fun e => klx e fun f => outK [f])
theorem st_bits_Reader_Held {lf : Nat} {r : RT} {a : V} : evStep Tryz.prog gt lf r 85 #[a] = inside (b_bits_Reader_Held lf r a) := by kernel_rfl

/- unstream_Reader_Held -/
def b_unstream_Reader_Held (lf : Nat) (r : RT) (a : V) : M V := kpe a nP fun b => ifV b (outK [(ii 0)]) (knn a fun c => kfa 4 c fun d => kld d fun e => kcl r 115 [e] fun f => outK [f])
theorem st_unstream_Reader_Held {lf : Nat} {r : RT} {a : V} : evStep Tryz.prog gt lf r 86 #[a] = inside (b_unstream_Reader_Held lf r a) := by kernel_rfl

/- unbwt_Inverter_Held -/
def b_unbwt_Inverter_Held (lf : Nat) (r : RT) (a : V) : M V := kpe a nP fun b => ifV b (outK [(ii 0)]) (knn a fun c => kfa 0 c fun d => kld d fun e => klx e fun f => kml
  (ii 2) f fun g => knn a fun h => kfa 259 h fun i => kld i fun j => kln j fun l => kad g l fun m => outK [m])
theorem st_unbwt_Inverter_Held {lf : Nat} {r : RT} {a : V} : evStep Tryz.prog gt lf r 87 #[a] = inside (b_unbwt_Inverter_Held lf r a) := by kernel_rfl

/- unpress_Expander_open -/
def b_unpress_Expander_open (lf : Nat) (r : RT) (a : V) : M V := knn a fun b => kfa 5 b fun c => kld c fun d => kcl r 116 [d] fun e => kex e 0 fun f => kex e 1 fun g =>
  knn a fun b => kfa 7 b fun c => kld c fun d => kap 5 1 d f fun e => knn a fun h => kfa 7 h fun i => kst i e fun _ => kne g (ii 0) fun b => ifV b (kcl r 117 [a, g] fun
  c => outK []) (knn a fun c => kfa 5 c fun d => kld d fun e => knn e fun h => kfa 3 h fun i => kld i fun j => kcl r 118 [j] fun l => ifV l (knn a fun c => kfa 5 c fun d => kst d nP fun _ => outK []) (outK []))
theorem st_unpress_Expander_open {lf : Nat} {r : RT} {a : V} : evStep Tryz.prog gt lf r 88 #[a] = inside (b_unpress_Expander_open lf r a) := by kernel_rfl

/- unpress_Expander_read -/
def b_unpress_Expander_read (lf : Nat) (r : RT) (a : V) : M V := knn a fun b => kfa 2 b fun c => kld c fun d => ifV d (knn a fun e => kfa 4 e fun f => kld f fun g => kcl
  r 97 [g] fun h => ifV h (knn a fun i => kfa 3 i fun j => kld j fun l => kcl r 98 [l] fun m => keq m (ii 0) fun n => ifV n (kcl r 117 [a, (ii 0)] fun b => outK [bT])
  (knn a fun b => kfa 4 b fun c => kld c fun d => knn a fun e => kfa 3 e fun f => kld f fun g => kcl r 99 [d, g] fun h => kex h 0 fun i => kex h 1 fun j => knn a fun b
  => kfa 3 b fun c => kld c fun d => kcl r 119 [d] fun e => keq j (ii 3) fun b => ifV b (knn a fun c => kfa 2 c fun d => kld d fun e => knt e fun f => ifV f (knn a fun b
  => kfa 6 b fun c => kst c bT fun _ => outK [bF]) (keq j (ii 3) fun b => ifV b (kcl r 117 [a, (ii 24)] fun c => outK [bT]) (kne j (ii 0) fun c => ifV c (kcl r 117 [a,
  j] fun d => outK [bT]) (keq i (ii 1) fun d => ifV d (knn a fun e => kfa 4 e fun g => kld g fun h => kcl r 121 [h] fun l => kcl r 120 [l] fun m => knn a fun o => kfa 5
  o fun p => kst p m fun _ => outK [bT]) (outK [bT]))))) (keq j (ii 3) fun b => ifV b (kcl r 117 [a, (ii 24)] fun c => outK [bT]) (kne j (ii 0) fun c => ifV c (kcl r 117
  [a, j] fun d => outK [bT]) (keq i (ii 1) fun d => ifV d (knn a fun e => kfa 4 e fun f => kld f fun g => kcl r 121 [g] fun h => kcl r 120 [h] fun l => knn a fun m =>
  kfa 5 m fun o => kst o l fun _ => outK [bT]) (outK [bT])))))) (knn a fun b => kfa 4 b fun c => kld c fun d => knn a fun e => kfa 3 e fun f => kld f fun g => kcl r 99
  [d, g] fun h => kex h 0 fun i => kex h 1 fun j => knn a fun b => kfa 3 b fun c => kld c fun d => kcl r 119 [d] fun e => keq j (ii 3) fun b => ifV b (knn a fun c => kfa
  2 c fun d => kld d fun e => knt e fun f => ifV f (knn a fun b => kfa 6 b fun c => kst c bT fun _ => outK [bF]) (keq j (ii 3) fun b => ifV b (kcl r 117 [a, (ii 24)] fun
  c => outK [bT]) (kne j (ii 0) fun c => ifV c (kcl r 117 [a, j] fun d => outK [bT]) (keq i (ii 1) fun d => ifV d (knn a fun e => kfa 4 e fun g => kld g fun h => kcl r
  121 [h] fun l => kcl r 120 [l] fun m => knn a fun n => kfa 5 n fun o => kst o m fun _ => outK [bT]) (outK [bT]))))) (keq j (ii 3) fun b => ifV b (kcl r 117 [a, (ii
  24)] fun c => outK [bT]) (kne j (ii 0) fun c => ifV c (kcl r 117 [a, j] fun d => outK [bT]) (keq i (ii 1) fun d => ifV d (knn a fun e => kfa 4 e fun f => kld f fun g
  => kcl r 121 [g] fun h => kcl r 120 [h] fun l => knn a fun m => kfa 5 m fun n => kst n l fun _ => outK [bT]) (outK [bT])))))) (knn a fun b => kfa 4 b fun c => kld c
  fun d => knn a fun e => kfa 3 e fun f => kld f fun g => kcl r 99 [d, g] fun h => kex h 0 fun i => kex h 1 fun j => knn a fun b => kfa 3 b fun c => kld c fun d => kcl r
  119 [d] fun e => keq j (ii 3) fun b => ifV b (knn a fun c => kfa 2 c fun d => kld d fun e => knt e fun f => ifV f (knn a fun b => kfa 6 b fun c => kst c bT fun _ =>
  outK [bF]) (keq j (ii 3) fun b => ifV b (kcl r 117 [a, (ii 24)] fun c => outK [bT]) (kne j (ii 0) fun c => ifV c (kcl r 117 [a, j] fun d => outK [bT]) (keq i (ii 1)
  fun d => ifV d (knn a fun e => kfa 4 e fun g => kld g fun h => kcl r 121 [h] fun l => kcl r 120 [l] fun m => knn a fun n => kfa 5 n fun o => kst o m fun _ => outK
  [bT]) (outK [bT]))))) (keq j (ii 3) fun b => ifV b (kcl r 117 [a, (ii 24)] fun c => outK [bT]) (kne j (ii 0) fun c => ifV c (kcl r 117 [a, j] fun d => outK [bT]) (keq
  i (ii 1) fun d => ifV d (knn a fun e => kfa 4 e fun f => kld f fun g => kcl r 121 [g] fun h => kcl r 120 [h] fun l => knn a fun m => kfa 5 m fun n => kst n l fun _ => outK [bT]) (outK [bT])))))
theorem st_unpress_Expander_read {lf : Nat} {r : RT} {a : V} : evStep Tryz.prog gt lf r 89 #[a] = inside (b_unpress_Expander_read lf r a) := by kernel_rfl

/- bits_Reader_More -/
def b_bits_Reader_More (lf : Nat) (r : RT) (a b : V) : M V := kpe a nP fun c => ifV c (outK [(ii 7)]) (knn a fun d => kfa 0 d fun e => kld e fun f => kad f b fun g =>
  knn a fun h => kfa 0 h fun i => kst i g fun _ => outK [(ii 0)])
theorem st_bits_Reader_More {lf : Nat} {r : RT} {a b : V} : evStep Tryz.prog gt lf r 90 #[a, b] = inside (b_bits_Reader_More lf r a b) := by kernel_rfl

/- balerref25_May -/
def b_balerref25_May (lf : Nat) (r : RT) (a b : V) : M V := kcl r 81 [a, b, (ii 4096)] fun c => outK [c]
theorem st_balerref25_May {lf : Nat} {r : RT} {a b : V} : evStep Tryz.prog gt lf r 91 #[a, b] = inside (b_balerref25_May lf r a b) := by kernel_rfl

/- tester_Tester_Take -/
def b_tester_Tester_Take (lf : Nat) (r : RT) (a b : V) : M V := kpe a nP fun c => ifV c (outK [(Value.string { data := #[] })]) (kls b (ii 1) fun d => ifV d (outK
  [(Value.string { data := #[] })]) (knn a fun c => kfa 2 c fun e => kld e fun f => klx f fun g => kmi b g fun h => knn a fun c => kfa 2 c fun e => kld e fun f => ksx f
  none (some h) fun g => knn a fun c => kfa 2 c fun e => kld e fun f => ksx f (some h) none fun i => knn a fun j => kfa 2 j fun l => kst l i fun _ => outK [g]))
theorem st_tester_Tester_Take {lf : Nat} {r : RT} {a b : V} : evStep Tryz.prog gt lf r 92 #[a, b] = inside (b_tester_Tester_Take lf r a b) := by kernel_rfl

/- tester_Tester_Stopped -/
def b_tester_Tester_Stopped (lf : Nat) (r : RT) (a : V) : M V := kpe a nP fun b => ifV b (outK [bT]) (knn a fun c => kfa 0 c fun d => kfa 0 d fun e => kld e fun f => kcl r 37 [f] fun g => outK [g])
theorem st_tester_Tester_Stopped {lf : Nat} {r : RT} {a : V} : evStep Tryz.prog gt lf r 93 #[a] = inside (b_tester_Tester_Stopped lf r a) := by kernel_rfl

/- tester_counted_forget -/
def b_tester_counted_forget (lf : Nat) (r : RT) (a : V) : M V := knn a fun b => kfa 1 b fun c => (timed (kld c M.ret)).bind fun d => knn a fun e => kfa 0 e fun f =>
  (timed (kld f M.ret)).bind fun g => knn a fun h => kfa 0 h fun i => (timed (kld i M.ret)).bind fun j => (timed (kcl r 36 [j.1] M.ret)).bind fun l => (timed (kcl r 83
  [g.1, l.1] M.ret)).bind fun m => klx m.1 fun n => kad d.1 n fun o => knn a fun p => kfa 1 p fun q => (timed (kst q o M.ret)).bind fun s => chkT ((!(clash3 d.2 l.2) &&
  (!(clash3 d.2 m.2) && true)) && ((!(clash3 g.2 l.2) && true) && true)) (outK [])
theorem st_tester_counted_forget {lf : Nat} {r : RT} {a : V} : evStep Tryz.prog gt lf r 94 #[a] = inside (b_tester_counted_forget lf r a) := by kernel_rfl

/- tester_Tester_tell -/
def b_tester_Tester_tell (lf : Nat) (r : RT) (a : V) : M V := knn a fun b => kfa 0 b fun c => kfa 0 c fun d => kld d fun e => kcl r 31 [e] fun f => ifV f (knn a fun g =>
  kfa 0 g fun h => kfa 0 h fun i => kld i fun j => kcl r 32 [j] fun l => keq l (ii 0) fun m => ifV m (knn a fun n => kfa 3 n fun o => kld o fun p => knt p fun q => ifV q
  (knn a fun b => kfa 3 b fun c => kst c bT fun _ => knn a fun b => kfa 0 b fun c => kfa 1 c fun d => kld d fun e => kcl r 107 [e] fun f => knn a fun g => kfa 2 g fun h
  => kst h f fun _ => outK []) (outK [])) (outK [])) (outK [])
theorem st_tester_Tester_tell {lf : Nat} {r : RT} {a : V} : evStep Tryz.prog gt lf r 95 #[a] = inside (b_tester_Tester_tell lf r a) := by kernel_rfl

/- split_Room -/
def b_split_Room (lf : Nat) (r : RT) (a b : V) : M V := kls a (ii 1) fun c => ifV c (outK [(ii 0), (ii 1)]) (kgr a (ii 9) fun d => ifV d (outK [(ii 0), (ii 1)]) (kls b
  (ii 24) fun e => ifV e (outK [(ii 0), (ii 1)]) (kgr b (ii 100000) fun f => ifV f (outK [(ii 0), (ii 1)]) (kml a b fun c => ksb c (ii 19) fun d => outK [d, (ii 0)]))))
theorem st_split_Room {lf : Nat} {r : RT} {a b : V} : evStep Tryz.prog gt lf r 96 #[a, b] = inside (b_split_Room lf r a b) := by kernel_rfl

/- unstream_Reader_MayEnd -/
def b_unstream_Reader_MayEnd (lf : Nat) (r : RT) (a : V) : M V := kpn a nP fun b => ifV b (knn a fun c => kfa 9 c fun d => kld d fun e => ifV e (knn a fun f => kfa 1 f
  fun g => kld g fun h => keq h (ii 0) fun i => ifV i (knn a fun j => kfa 2 j fun l => kld l fun m => keq m (ii 0) fun n => ifV n (knn a fun o => kfa 10 o fun p => kld p
  fun q => keq q (ii 0) fun s => outK [s]) (outK [bF])) (outK [bF])) (outK [bF])) (outK [bF])
theorem st_unstream_Reader_MayEnd {lf : Nat} {r : RT} {a : V} : evStep Tryz.prog gt lf r 97 #[a] = inside (b_unstream_Reader_MayEnd lf r a) := by kernel_rfl

/- bits_Reader_Left -/
def b_bits_Reader_Left (lf : Nat) (r : RT) (a : V) : M V := kpe a nP fun b => ifV b (outK [(ii 0)]) ((timed (kcl r 122 [a] M.ret)).bind fun c => knn a fun d => kfa 2 d
  fun e => (timed (kld e M.ret)).bind fun f => ksb c.1 f.1 fun g => chkT ((!(clash3 c.2 f.2) && true) && true) (outK [g]))
theorem st_bits_Reader_Left {lf : Nat} {r : RT} {a : V} : evStep Tryz.prog gt lf r 98 #[a] = inside (b_bits_Reader_Left lf r a) := by kernel_rfl

/- unstream_Reader_Step -/
def b_unstream_Reader_Step (lf : Nat) (r : RT) (a b : V) : M V := kpe a nP fun c => ifV c (outK [(ii 0), (ii 7)]) (kpe b nP fun d => ifV d (outK [(ii 0), (ii 7)]) (knn a
  fun c => kfa 10 c fun e => kld e fun f => kne f (ii 0) fun g => ifV g (knn a fun c => kfa 10 c fun e => kld e fun f => outK [(ii 0), f]) (kcl r 123 [a, b] fun c => kex
  c 0 fun e => kex c 1 fun f => kne f (ii 3) fun c => ifV c (knn a fun h => kfa 10 h fun i => kst i f fun _ => outK [e, f]) (outK [e, f]))))
theorem st_unstream_Reader_Step {lf : Nat} {r : RT} {a b : V} : evStep Tryz.prog gt lf r 99 #[a, b] = inside (b_unstream_Reader_Step lf r a b) := by kernel_rfl

/- inspect_reader_block -/
def b_inspect_reader_block (lf : Nat) (r : RT) (a : V) : M V := knn a fun b => kfa 2 b fun c => kld c fun d => kcl r 121 [d] fun e => kal 134 z134 fun f => ksg 3 f e fun
  _ => klg 3 f fun b => kcl r 124 [b] fun c => kex c 0 fun d => kex c 1 fun e => kne e (ii 0) fun b => ifV b (outK [e]) (kfa 2 f fun c => (timed (kld c M.ret)).bind fun
  g => kfa 1 f fun h => (timed (kld h M.ret)).bind fun i => kfa 0 f fun j => (timed (kld j M.ret)).bind fun l => klx l.1 fun m => klx d fun n => kbd z33 [(0, 1, (ii 2)),
  (4, 1, g.1), (5, 1, i.1), (6, 1, m), (7, 1, n)] fun o => knn a fun p => kfa 1 p fun q => (timed (kld q M.ret)).bind fun s => (timed (kcl r 126 [s.1] M.ret)).bind fun t
  => (timed (kcl r 125 [a, o, t.1] M.ret)).bind fun u => chkT ((!(clash3 g.2 t.2) && true) && ((!(clash3 i.2 t.2) && true) && ((!(clash3 l.2 t.2) && true) && true)))
  (knn a fun c => kfa 5 c fun g => kld g fun h => kfa 2 f fun i => kld i fun j => kcl r 127 [h, j] fun l => knn a fun m => kfa 5 m fun n => kst n l fun _ => outK [(ii 0)]))
theorem st_inspect_reader_block {lf : Nat} {r : RT} {a : V} : evStep Tryz.prog gt lf r 100 #[a] = inside (b_inspect_reader_block lf r a) := by kernel_rfl

/- inspect_reader_end -/
def b_inspect_reader_end (lf : Nat) (r : RT) (a : V) : M V := knn a fun b => kfa 5 b fun c => kld c fun d => kbd z33 [(0, 1, (ii 3)), (4, 1, d)] fun e => knn a fun f =>
  kfa 4 f fun g => kld g fun h => kad h (ii 48) fun i => kad i (ii 32) fun j => kcl r 125 [a, e, j] fun l => knn a fun b => kfa 1 b fun c => kld c fun d => kcl r 126 [d]
  fun e => knn a fun f => kfa 4 f fun g => kst g e fun _ => outK []
theorem st_inspect_reader_end {lf : Nat} {r : RT} {a : V} : evStep Tryz.prog gt lf r 101 #[a] = inside (b_inspect_reader_end lf r a) := by kernel_rfl

/- inspect_reader_begin -/
def b_inspect_reader_begin (lf : Nat) (r : RT) (a : V) : M V := knn a fun b => kfa 3 b fun c => kld c fun d => kln d fun e => keq e (ii 0) fun f => ifV f (knn a fun b =>
  kfa 1 b fun c => (timed (kld c M.ret)).bind fun d => (timed (kcl r 126 [d.1] M.ret)).bind fun e => knn a fun f => kfa 4 f fun g => (timed (kld g M.ret)).bind fun h =>
  kad h.1 (ii 32) fun i => keq e.1 i fun j => chkT ((!(clash3 e.2 h.2) && true) && true) (ifV j (knn a fun b => kfa 0 b fun c => kld c fun d => knn a fun e => kfa 4 e
  fun f => kld f fun g => kqu g (ii 8) fun h => kad h (ii 3) fun i => kit d i fun l => ksb l (i1 48) fun m => kcv .i64 m fun n => kbd z33 [(0, 1, (ii 1)), (1, 1, n)] fun
  b => knn a fun c => kfa 1 c fun d => kld d fun e => kcl r 126 [e] fun f => kcl r 125 [a, b, f] fun g => knn a fun b => kfa 5 b fun c => kst c (i3 0) fun _ => outK [])
  (outK []))) (knn a fun g => kfa 3 g fun h => kld h fun i => knn a fun j => kfa 3 j fun l => kld l fun m => kln m fun n => ksb n (ii 1) fun o => kiy 8 i o fun p => kfa
  0 p fun q => kld q fun s => keq s (ii 3) fun t => ifV t (knn a fun b => kfa 1 b fun c => (timed (kld c M.ret)).bind fun d => (timed (kcl r 126 [d.1] M.ret)).bind fun e
  => knn a fun f => kfa 4 f fun g => (timed (kld g M.ret)).bind fun h => kad h.1 (ii 32) fun i => keq e.1 i fun j => chkT ((!(clash3 e.2 h.2) && true) && true) (ifV j
  (knn a fun b => kfa 0 b fun c => kld c fun d => knn a fun e => kfa 4 e fun f => kld f fun g => kqu g (ii 8) fun h => kad h (ii 3) fun i => kit d i fun l => ksb l (i1
  48) fun m => kcv .i64 m fun n => kbd z33 [(0, 1, (ii 1)), (1, 1, n)] fun b => knn a fun c => kfa 1 c fun d => kld d fun e => kcl r 126 [e] fun f => kcl r 125 [a, b, f]
  fun g => knn a fun b => kfa 5 b fun c => kst c (i3 0) fun _ => outK []) (outK []))) ((timed (M.ret undef)).bind fun b => (timed (M.ret undef)).bind fun c => (timed
  (M.ret undef)).bind fun d => chkT ((!(clash3 c.2 d.2) && true) && true) (outK [])))
theorem st_inspect_reader_begin {lf : Nat} {r : RT} {a : V} : evStep Tryz.prog gt lf r 102 #[a] = inside (b_inspect_reader_begin lf r a) := by kernel_rfl

/- balerref01_Field -/
def lpA_balerref01_Field (lf : Nat) (r : RT) : Nat→(V→M V)→V→V→V→V→V→V→M V
  | 0, _, _, _, _, _, _, _ => .fail
  | fu + 1, k, a, b, c, d, e, f => kls f e fun g => ifV g (krm a (i3 2) fun h => krm a (i3 2) fun i => kad i (i3 1) fun j => ksx (Value.string { data := #[48, 49] })
   (some h) (some j) fun l => kad l d fun m => kqu a (i3 2) fun d => kad f (ii 1) fun a => lpA_balerref01_Field lf r fu k d b c m e a) (k d)
def sA_balerref01_Field : List Nat := [0, 1, 4, 5, 6, 7]
def kcA_balerref01_Field (lf : Nat) (r : RT) : (V→M V) := fun a => outK [a]
def b_balerref01_Field (lf : Nat) (r : RT) (a b : V) : M V := lpA_balerref01_Field lf r lf (kcA_balerref01_Field lf r) a b (Value.string { data := #[] }) (Value.string { data := #[] }) b (ii 0)
theorem lqA_balerref01_Field {lf : Nat} {r : RT} (K : KT) : ∀ fu, lpA_balerref01_Field lf r fu (fun a => K (.exit 0) (zp [5] [a])) = fun a b c d e f => loopK (cQ 103 (pb
  6 11) lf r) sA_balerref01_Field fu (zp sA_balerref01_Field [a, b, c, d, e, f]) K
  | 0 => by funext a b c d e f; kernel_rfl
  | fu + 1 => by
    have ih := lqA_balerref01_Field (lf := lf) (r := r) K fu
    funext a b c d e f
    rw [lpA_balerref01_Field]
    simp only [ih]
    kernel_rfl
theorem kqA_balerref01_Field {lf : Nat} {r : RT} : kcA_balerref01_Field lf r = (fun a => (tK 103 (pb 5 11) lf r) (.exit 0) (zp [5] [a])) := by kernel_rfl
theorem st_balerref01_Field {lf : Nat} {r : RT} {a b : V} : evStep Tryz.prog gt lf r 103 #[a, b] = inside (b_balerref01_Field lf r a b) := by 
  unfold b_balerref01_Field
  simp only [kqA_balerref01_Field, lqA_balerref01_Field]
  kernel_rfl

/- balerref20_Of -/
def b_balerref20_Of (lf : Nat) (r : RT) (a b : V) : M V := kal 159 z159 fun c => klx a fun d => kls d (ii 57) fun e => ifV e (kbd z159 [(5, 1, (ii 3))] fun d => ksg 6 c
  d fun _ => klg 6 c fun a => outK [a]) (kit a (ii 32) fun d => keq d (i1 49) fun f => ifV f (kbd z159 [(5, 1, (ii 25))] fun d => ksg 6 c d fun _ => klg 6 c fun a =>
  outK [a]) (ksx a (some (ii 57)) none fun d => kcl r 128 [d] fun g => kal 185 z185 fun h => ksg 3 h g fun _ => kfa 2 h fun d => kld d fun g => kne g (ii 0) fun i => ifV
  i (kfa 2 h fun d => kld d fun g => kbd z159 [(5, 1, g)] fun j => ksg 6 c j fun _ => klg 6 c fun a => outK [a]) (kfa 0 h fun d => kld d fun g => klx g fun j => kfa 1 h
  fun d => kld d fun g => kad (ii 57) g fun l => ksx a (some l) none fun d => kad j (ii 2) fun g => kcl r 129 [d, g, (ii 8000)] fun m => kal 188 z188 fun n => ksg 4 n m
  fun _ => ksx a (some l) none fun d => kad j (ii 2) fun g => kcl r 131 [d, g] fun m => kcl r 130 [m, j, b] fun o => kne o (ii 0) fun p => ifV p (kbd z159 [(5, 1, (ii
  25))] fun d => ksg 6 c d fun _ => klg 6 c fun a => outK [a]) (kfa 3 n fun d => kld d fun g => kne g (ii 0) fun m => ifV m (kfa 3 n fun d => kld d fun g => kbd z159
  [(5, 1, g)] fun o => ksg 6 c o fun _ => klg 6 c fun a => outK [a]) (kfa 0 n fun d => kld d fun g => kcl r 132 [g, j, b] fun o => kex o 0 fun q => kex o 1 fun s => kfa
  0 h fun d => kld d fun g => kcl r 133 [q, g] fun o => kex o 0 fun s => kex o 1 fun t => ksx a (some (ii 33)) (some (ii 57)) fun d => kcl r 63 [d] fun g => kcv .i64 g
  fun o => klx s fun d => kgq o d fun g => ifV g (kbd z159 [(5, 1, (ii 23))] fun d => ksg 6 c d fun _ => klg 6 c fun a => outK [a]) ((timed (ksx a none (some (ii 32))
  M.ret)).bind fun d => (timed (kcl r 63 [d.1] M.ret)).bind fun t => kbd z157 [(0, 1, s), (1, 1, o), (2, 1, t.1)] fun u => kfa 1 n fun v => (timed (kld v M.ret)).bind
  fun w => kad l w.1 fun x => kfa 2 n fun y => (timed (kld y M.ret)).bind fun z => klx s fun A => kad z.1 A fun B => kbd z159 [(0, 3, u), (3, 1, x), (4, 1, B)] fun C =>
  (timed (ksg 6 c C M.ret)).bind fun D => chkT ((!(clash3 t.2 w.2) && (!(clash3 t.2 z.2) && true)) && true) (klg 6 c fun a => outK [a])))))))
theorem st_balerref20_Of {lf : Nat} {r : RT} {a b : V} : evStep Tryz.prog gt lf r 104 #[a, b] = inside (b_balerref20_Of lf r a b) := by kernel_rfl

/- balerref20_Open -/
def b_balerref20_Open (lf : Nat) (r : RT) (a : V) : M V := kbx 157 a fun b => kfa 0 b fun c => kld c fun d => keq d (Value.string { data := #[] }) fun e => ifV e (outK
  [(Value.string { data := #[] }), (ii 1)]) (kfa 1 b fun c => kld c fun d => kls d (ii 0) fun f => ifV f (outK [(Value.string { data := #[] }), (ii 23)]) (kfa 1 b fun g
  => kld g fun h => kfa 0 b fun i => kld i fun j => klx j fun l => kgq h l fun m => ifV m (outK [(Value.string { data := #[] }), (ii 23)]) (kfa 0 b fun c => kld c fun d
  => kfa 1 b fun f => kld f fun g => kcl r 135 [d, g] fun h => kcl r 134 [h] fun i => kex i 0 fun j => kex i 1 fun l => kne l (ii 0) fun c => ifV c (outK [(Value.string
  { data := #[] }), (ii 25)]) ((timed (kcl r 112 [j] M.ret)).bind fun d => kfa 2 b fun f => (timed (kld f M.ret)).bind fun g => kne d.1 g.1 fun h => chkT ((!(clash3 d.2
  g.2) && true) && true) (ifV h (outK [(Value.string { data := #[] }), (ii 21)]) (outK [j, (ii 0)]))))))
theorem st_balerref20_Open {lf : Nat} {r : RT} {a : V} : evStep Tryz.prog gt lf r 105 #[a] = inside (b_balerref20_Open lf r a) := by kernel_rfl

/- tester_Digits -/
def b_tester_Digits (lf : Nat) (r : RT) (a : V) : M V := kls a (ii 10) fun b => ifV b (kma a (ii 0) fun c => kad (ii 48) c fun d => kcv .u8 d fun e => kb1 5 1 e fun f =>
  kts f fun g => outK [g]) (kqu a (ii 10) fun c => (timed (kcl r 107 [c] M.ret)).bind fun d => krm a (ii 10) fun e => kad (ii 48) e fun f => (timed (kcv .u8 f
  M.ret)).bind fun g => (timed (kb1 5 1 g.1 M.ret)).bind fun h => (timed (kts h.1 M.ret)).bind fun i => kad d.1 i.1 fun j => chkT ((!(clash3 d.2 g.2) && (!(clash3 d.2
  h.2) && (!(clash3 d.2 i.2) && true))) && true) (outK [j]))
theorem st_tester_Digits {lf : Nat} {r : RT} {a : V} : evStep Tryz.prog gt lf r 107 #[a] = inside (b_tester_Digits lf r a) := by kernel_rfl

/- balerref03_Pieces -/
def lpA_balerref03_Pieces (lf : Nat) (r : RT) : Nat→(V→M V)→V→V→V→M V
  | 0, _, _, _, _ => .fail
  | fu + 1, k, a, b, c => klx a fun d => kgr d (ii 0) fun e => ifV e (kcl r 137 [a] fun d => kit a (ii 0) fun f => kbd z168 [(0, 1, f), (1, 1, d)] fun g => kb1 168 2 g
   fun h => kap 168 2 c h fun i => ksx a (some d) none fun c => lpA_balerref03_Pieces lf r fu k c b i) (k c)
def sA_balerref03_Pieces : List Nat := [0, 2, 3]
def kcA_balerref03_Pieces (lf : Nat) (r : RT) : (V→M V) := fun a => outK [a]
def b_balerref03_Pieces (lf : Nat) (r : RT) (a : V) : M V := lpA_balerref03_Pieces lf r lf (kcA_balerref03_Pieces lf r) a nS nS
theorem lqA_balerref03_Pieces {lf : Nat} {r : RT} (K : KT) : ∀ fu, lpA_balerref03_Pieces lf r fu (fun a => K (.exit 0) (zp [3] [a])) = fun a b c => loopK (cQ 108 (pb 5
  3) lf r) sA_balerref03_Pieces fu (zp sA_balerref03_Pieces [a, b, c]) K
  | 0 => by funext a b c; kernel_rfl
  | fu + 1 => by
    have ih := lqA_balerref03_Pieces (lf := lf) (r := r) K fu
    funext a b c
    rw [lpA_balerref03_Pieces]
    simp only [ih]
    kernel_rfl
theorem kqA_balerref03_Pieces {lf : Nat} {r : RT} : kcA_balerref03_Pieces lf r = (fun a => (tK 108 (pb 4 3) lf r) (.exit 0) (zp [3] [a])) := by kernel_rfl
theorem st_balerref03_Pieces {lf : Nat} {r : RT} {a : V} : evStep Tryz.prog gt lf r 108 #[a] = inside (b_balerref03_Pieces lf r a) := by 
  unfold b_balerref03_Pieces
  simp only [kqA_balerref03_Pieces, lqA_balerref03_Pieces]
  kernel_rfl

/- balerref03_Piece -/
def lpA_balerref03_Piece (lf : Nat) (r : RT) : Nat→(V→V→M V)→V→V→V→V→V→V→M V
  | 0, _, _, _, _, _, _, _ => .fail
  | fu + 1, k, a, b, c, d, e, f => kls f e fun g => ifV g (kls f (ii 4) fun h => ifV h (kfa 0 b fun i => kld i fun j => kb1 5 1 j fun l => kts l fun m => kad d m fun n
   => kad f (ii 1) fun d => lpA_balerref03_Piece lf r fu k a b c n e d) (kad f (ii 1) fun i => lpA_balerref03_Piece lf r fu k a b c d e i)) (k b d)
def sA_balerref03_Piece : List Nat := [0, 1, 2, 3, 6, 7]
def kcA_balerref03_Piece (lf : Nat) (r : RT) : (V→V→M V) := fun a b => kfa 1 a fun c => kld c fun d => kgq d (ii 4) fun e => ifV e (kfa 1 a fun c => kld c fun d => ksb d
  (ii 4) fun f => kcv .u8 f fun g => kb1 5 1 g fun h => kts h fun i => kad b i fun j => outK [j]) (outK [b])
def b_balerref03_Piece (lf : Nat) (r : RT) (a : V) : M V := kbx 168 a fun b => kfa 1 b fun c => kld c fun d => lpA_balerref03_Piece lf r lf (kcA_balerref03_Piece lf r) a
  b (Value.string { data := #[] }) (Value.string { data := #[] }) d (ii 0)
theorem lqA_balerref03_Piece {lf : Nat} {r : RT} (K : KT) : ∀ fu, lpA_balerref03_Piece lf r fu (fun a b => K (.exit 0) (zp [1, 3] [a, b])) = fun a b c d e f => loopK (cQ
  109 (pb 6 11) lf r) sA_balerref03_Piece fu (zp sA_balerref03_Piece [a, b, c, d, e, f]) K
  | 0 => by funext a b c d e f; kernel_rfl
  | fu + 1 => by
    have ih := lqA_balerref03_Piece (lf := lf) (r := r) K fu
    funext a b c d e f
    rw [lpA_balerref03_Piece]
    simp only [ih]
    kernel_rfl
theorem kqA_balerref03_Piece {lf : Nat} {r : RT} : kcA_balerref03_Piece lf r = (fun a b => (tK 109 (pb 5 11) lf r) (.exit 0) (zp [1, 3] [a, b])) := by kernel_rfl
theorem st_balerref03_Piece {lf : Nat} {r : RT} {a : V} : evStep Tryz.prog gt lf r 109 #[a] = inside (b_balerref03_Piece lf r a) := by 
  unfold b_balerref03_Piece
  simp only [kqA_balerref03_Piece, lqA_balerref03_Piece]
  kernel_rfl

/- balerref17_Of -/
def b_balerref17_Of (lf : Nat) (r : RT) (a : V) : M V := kal 171 z171 fun b => kcl r 139 [a] fun c => kcl r 138 [a, c] fun d => ksg 2 b d fun _ => klg 2 b fun a => outK [a]
theorem st_balerref17_Of {lf : Nat} {r : RT} {a : V} : evStep Tryz.prog gt lf r 110 #[a] = inside (b_balerref17_Of lf r a) := by kernel_rfl

/- balerref20_Bits -/
def b_balerref20_Bits (lf : Nat) (r : RT) (a : V) : M V := kbx 157 a fun b => kfa 0 b fun c => kld c fun d => kcl r 140 [d] fun e => kfa 0 b fun c => kld c fun d => kcl
  r 141 [d, e] fun f => kex f 0 fun g => kex f 1 fun h => klx e fun c => kcl r 142 [g, c] fun d => kex d 0 fun f => kex d 1 fun h => kfa 2 b fun c => (timed (kld c
  M.ret)).bind fun d => (timed (kcl r 103 [d.1, (ii 32)] M.ret)).bind fun h => kad h.1 (Value.string { data := #[48] }) fun i => kfa 1 b fun j => (timed (kld j
  M.ret)).bind fun l => (timed (kcv .u32 l.1 M.ret)).bind fun m => (timed (kcl r 103 [m.1, (ii 24)] M.ret)).bind fun n => kad i n.1 fun o => (timed (kcl r 143 [e]
  M.ret)).bind fun p => kad o p.1 fun q => klx e fun s => kad s (ii 2) fun t => (timed (kcl r 144 [f, t] M.ret)).bind fun u => kad q u.1 fun v => chkT ((!(clash3 d.2
  m.2) && true) && ((!(clash3 h.2 l.2) && (!(clash3 h.2 m.2) && true)) && true)) (outK [v])
theorem st_balerref20_Bits {lf : Nat} {r : RT} {a : V} : evStep Tryz.prog gt lf r 111 #[a] = inside (b_balerref20_Bits lf r a) := by kernel_rfl

/- balerref02_Of -/
def lpA_balerref02_Of (lf : Nat) (r : RT) : Nat→(V→M V)→V→V→V→V→M V
  | 0, _, _, _, _, _ => .fail
  | fu + 1, k, a, b, c, d => klx a fun e => kls d e fun f => ifV f (kit a d fun e => kcl r 145 [c, e] fun g => kad d (ii 1) fun c => lpA_balerref02_Of lf r fu k a b g c) (k c)
def sA_balerref02_Of : List Nat := [0, 2, 3, 4]
def kcA_balerref02_Of (lf : Nat) (r : RT) : (V→M V) := fun a => ksb (i3 4294967295) a fun b => outK [b]
def b_balerref02_Of (lf : Nat) (r : RT) (a : V) : M V := lpA_balerref02_Of lf r lf (kcA_balerref02_Of lf r) a (i3 0) (i3 4294967295) (ii 0)
theorem lqA_balerref02_Of {lf : Nat} {r : RT} (K : KT) : ∀ fu, lpA_balerref02_Of lf r fu (fun a => K (.exit 0) (zp [3] [a])) = fun a b c d => loopK (cQ 112 (pb 6 11) lf
  r) sA_balerref02_Of fu (zp sA_balerref02_Of [a, b, c, d]) K
  | 0 => by funext a b c d; kernel_rfl
  | fu + 1 => by
    have ih := lqA_balerref02_Of (lf := lf) (r := r) K fu
    funext a b c d
    rw [lpA_balerref02_Of]
    simp only [ih]
    kernel_rfl
theorem kqA_balerref02_Of {lf : Nat} {r : RT} : kcA_balerref02_Of lf r = (fun a => (tK 112 (pb 5 11) lf r) (.exit 0) (zp [3] [a])) := by kernel_rfl
theorem st_balerref02_Of {lf : Nat} {r : RT} {a : V} : evStep Tryz.prog gt lf r 112 #[a] = inside (b_balerref02_Of lf r a) := by 
  unfold b_balerref02_Of
  simp only [kqA_balerref02_Of, lqA_balerref02_Of]
  kernel_rfl

/- balerref01_Bytes -/
def lpA_balerref01_Bytes (lf : Nat) (r : RT) : Nat→(V→M V)→V→V→V→M V
  | 0, _, _, _, _ => .fail
  | fu + 1, k, a, b, c => klx a fun d => kgq d (ii 8) fun e => ifV e (ksx a none (some (ii 8)) fun d => kcl r 63 [d] fun f => kcv .u8 f fun g => kb1 5 1 g fun h => kts h
   fun i => kad c i fun j => ksx a (some (ii 8)) none fun c => lpA_balerref01_Bytes lf r fu k c b j) (k c)
def sA_balerref01_Bytes : List Nat := [0, 2, 3]
def kcA_balerref01_Bytes (lf : Nat) (r : RT) : (V→M V) := fun a => outK [a]
def b_balerref01_Bytes (lf : Nat) (r : RT) (a : V) : M V := lpA_balerref01_Bytes lf r lf (kcA_balerref01_Bytes lf r) a (Value.string { data := #[] }) (Value.string { data := #[] })
theorem lqA_balerref01_Bytes {lf : Nat} {r : RT} (K : KT) : ∀ fu, lpA_balerref01_Bytes lf r fu (fun a => K (.exit 0) (zp [3] [a])) = fun a b c => loopK (cQ 113 (pb 5 3)
  lf r) sA_balerref01_Bytes fu (zp sA_balerref01_Bytes [a, b, c]) K
  | 0 => by funext a b c; kernel_rfl
  | fu + 1 => by
    have ih := lqA_balerref01_Bytes (lf := lf) (r := r) K fu
    funext a b c
    rw [lpA_balerref01_Bytes]
    simp only [ih]
    kernel_rfl
theorem kqA_balerref01_Bytes {lf : Nat} {r : RT} : kcA_balerref01_Bytes lf r = (fun a => (tK 113 (pb 4 3) lf r) (.exit 0) (zp [3] [a])) := by kernel_rfl
theorem st_balerref01_Bytes {lf : Nat} {r : RT} {a : V} : evStep Tryz.prog gt lf r 113 #[a] = inside (b_balerref01_Bytes lf r a) := by 
  unfold b_balerref01_Bytes
  simp only [kqA_balerref01_Bytes, lqA_balerref01_Bytes]
  kernel_rfl

/- balerref01_Padded -/
def lpA_balerref01_Padded (lf : Nat) (r : RT) : Nat→(V→M V)→V→V→M V
  | 0, _, _, _ => .fail
  | fu + 1, k, a, b => klx a fun c => krm c (ii 8) fun d => kne d (ii 0) fun e => ifV e (kad a (Value.string { data := #[48] }) fun c => lpA_balerref01_Padded lf r fu k c b) (k a)
def sA_balerref01_Padded : List Nat := [0, 2]
def kcA_balerref01_Padded (lf : Nat) (r : RT) : (V→M V) := fun a => outK [a]
def b_balerref01_Padded (lf : Nat) (r : RT) (a : V) : M V := lpA_balerref01_Padded lf r lf (kcA_balerref01_Padded lf r) a (Value.string { data := #[] })
theorem lqA_balerref01_Padded {lf : Nat} {r : RT} (K : KT) : ∀ fu, lpA_balerref01_Padded lf r fu (fun a => K (.exit 0) (zp [0] [a])) = fun a b => loopK (cQ 114 (pb 4 1)
  lf r) sA_balerref01_Padded fu (zp sA_balerref01_Padded [a, b]) K
  | 0 => by funext a b; kernel_rfl
  | fu + 1 => by
    have ih := lqA_balerref01_Padded (lf := lf) (r := r) K fu
    funext a b
    rw [lpA_balerref01_Padded]
    simp only [ih]
    kernel_rfl
theorem kqA_balerref01_Padded {lf : Nat} {r : RT} : kcA_balerref01_Padded lf r = (fun a => (tK 114 (pb 3 1) lf r) (.exit 0) (zp [0] [a])) := by kernel_rfl
theorem st_balerref01_Padded {lf : Nat} {r : RT} {a : V} : evStep Tryz.prog gt lf r 114 #[a] = inside (b_balerref01_Padded lf r a) := by 
  unfold b_balerref01_Padded
  simp only [kqA_balerref01_Padded, lqA_balerref01_Padded]
  kernel_rfl

/- block_Reader_Held -/
def b_block_Reader_Held (lf : Nat) (r : RT) (a : V) : M V := kpe a nP fun b => ifV b (outK [(ii 0)]) (knn a fun c => kfa 0 c fun d => kld d fun e => kpe e nP fun f =>
  ifV f (knn a fun c => kfa 5 c fun d => kld d fun e => kln e fun g => outK [g]) (knn a fun c => kfa 0 c fun d => (timed (kld d M.ret)).bind fun e => knn e.1 fun g =>
  kfa 0 g fun h => (timed (kld h M.ret)).bind fun i => (timed (kcl r 146 [i.1] M.ret)).bind fun j => knn a fun l => kfa 5 l fun m => (timed (kld m M.ret)).bind fun n =>
  kln n.1 fun o => kad j.1 o fun p => chkT ((!(clash3 j.2 n.2) && true) && true) (outK [p])))
theorem st_block_Reader_Held {lf : Nat} {r : RT} {a : V} : evStep Tryz.prog gt lf r 115 #[a] = inside (b_block_Reader_Held lf r a) := by kernel_rfl

/- unpress_opening_step -/
def b_unpress_opening_step (lf : Nat) (r : RT) (a : V) : M V := knn a fun b => kfa 3 b fun c => kld c fun d => kcl r 147 [d, (ii 1)] fun e => knn a fun b => kfa 3 b fun
  c => kld c fun d => kcl r 148 [d] fun e => keq e (Value.string { data := #[] }) fun b => ifV b (outK [(Value.string { data := #[] }), (ii 0)]) (knn a fun c => kfa 4 c
  fun d => kld d fun f => kit e (ii 0) fun g => kcl r 149 [f, g] fun h => kex h 0 fun i => kex h 1 fun j => kne j (ii 0) fun c => ifV c (outK [(Value.string { data :=
  #[] }), j]) (knn a fun d => kfa 5 d fun f => kld f fun g => kcl r 150 [g, i] fun h => kcl r 151 [a] fun d => outK [i, d]))
theorem st_unpress_opening_step {lf : Nat} {r : RT} {a : V} : evStep Tryz.prog gt lf r 116 #[a] = inside (b_unpress_opening_step lf r a) := by kernel_rfl

/- unpress_Expander_fail -/
def b_unpress_Expander_fail (lf : Nat) (r : RT) (a b : V) : M V := knn a fun c => kfa 8 c fun d => kst d bT fun _ => knn a fun c => kfa 9 c fun d => kst d b fun _ => knn
  a fun c => kfa 5 c fun d => kst d nP fun _ => outK []
theorem st_unpress_Expander_fail {lf : Nat} {r : RT} {a b : V} : evStep Tryz.prog gt lf r 117 #[a, b] = inside (b_unpress_Expander_fail lf r a b) := by kernel_rfl

/- unbwt_Inverter_Done -/
def b_unbwt_Inverter_Done (lf : Nat) (r : RT) (a : V) : M V := kpn a nP fun b => ifV b (knn a fun c => kfa 260 c fun d => kld d fun e => knn a fun f => kfa 0 f fun g =>
  kld g fun h => klx h fun i => kml (ii 3) i fun j => keq e j fun l => outK [l]) (outK [bF])
theorem st_unbwt_Inverter_Done {lf : Nat} {r : RT} {a : V} : evStep Tryz.prog gt lf r 118 #[a] = inside (b_unbwt_Inverter_Done lf r a) := by kernel_rfl

/- bits_Reader_Drop -/
def b_bits_Reader_Drop (lf : Nat) (r : RT) (a : V) : M V := kpe a nP fun b => ifV b (outK [(ii 0)]) (knn a fun c => kfa 2 c fun d => kld d fun e => kqu e (ii 8) fun f =>
  knn a fun g => kfa 1 g fun h => kld h fun i => ksb f i fun j => knn a fun c => kfa 0 c fun d => kld d fun e => ksx e (some j) none fun f => knn a fun g => kfa 0 g fun
  h => kst h f fun _ => knn a fun c => kfa 1 c fun d => kld d fun e => kad e j fun f => knn a fun g => kfa 1 g fun h => kst h f fun _ => outK [j])
theorem st_bits_Reader_Drop {lf : Nat} {r : RT} {a : V} : evStep Tryz.prog gt lf r 119 #[a] = inside (b_bits_Reader_Drop lf r a) := by kernel_rfl

/- unpress_openingOf -/
def b_unpress_openingOf (lf : Nat) (r : RT) (a : V) : M V := kbx 134 a fun b => kfa 0 b fun c => kld c fun d => kfa 1 b fun e => kld e fun f => kcl r 152 [d, f] fun g =>
  kex g 0 fun h => kex g 1 fun i => (timed (klg 3 b M.ret)).bind fun c => (timed (kcl r 153 [] M.ret)).bind fun d => (timed (kcl r 154 [] M.ret)).bind fun e => kbd z139
  [(0, 3, c.1), (3, 1, h), (4, 1, d.1), (5, 1, e.1)] fun f => (timed (kbx 139 f M.ret)).bind fun g => chkT ((!(clash3 c.2 d.2) && (!(clash3 c.2 e.2) && true)) && true) (outK [g.1])
theorem st_unpress_openingOf {lf : Nat} {r : RT} {a : V} : evStep Tryz.prog gt lf r 120 #[a] = inside (b_unpress_openingOf lf r a) := by kernel_rfl

/- unstream_Reader_Got -/
def b_unstream_Reader_Got (lf : Nat) (r : RT) (a : V) : M V := kal 134 z134 fun b => kpe a nP fun c => ifV c (kbd z134 [] fun d => ksg 3 b d fun _ => klg 3 b fun a =>
  outK [a]) (knn a fun d => kfa 5 d fun e => klg 3 e fun f => ksg 3 b f fun _ => klg 3 b fun a => outK [a])
theorem st_unstream_Reader_Got {lf : Nat} {r : RT} {a : V} : evStep Tryz.prog gt lf r 121 #[a] = inside (b_unstream_Reader_Got lf r a) := by kernel_rfl

/- bits_Reader_end -/
def b_bits_Reader_end (lf : Nat) (r : RT) (a : V) : M V := knn a fun b => kfa 1 b fun c => kld c fun d => knn a fun e => kfa 0 e fun f => kld f fun g => klx g fun h =>
  kad d h fun i => kml (ii 8) i fun j => outK [j]
theorem st_bits_Reader_end {lf : Nat} {r : RT} {a : V} : evStep Tryz.prog gt lf r 122 #[a] = inside (b_bits_Reader_end lf r a) := by kernel_rfl

/- unstream_Reader_step -/
def b_unstream_Reader_step (lf : Nat) (r : RT) (a b : V) : M V := knn a fun c => kfa 1 c fun d => kld d fun e => keq e (ii 0) fun c => ifV c (kcl r 155 [a, b] fun d =>
  outK [(ii 0), d]) (keq e (ii 1) fun d => ifV d (kcl r 156 [a, b] fun f => outK [(ii 0), f]) (keq e (ii 2) fun f => ifV f (kcl r 157 [a, b] fun g => kex g 0 fun h =>
  kex g 1 fun i => outK [h, i]) (kcl r 158 [a, b] fun g => kex g 0 fun h => kex g 1 fun i => outK [h, i])))
theorem st_unstream_Reader_step {lf : Nat} {r : RT} {a b : V} : evStep Tryz.prog gt lf r 123 #[a, b] = inside (b_unstream_Reader_step lf r a b) := by kernel_rfl

/- block_Open -/
def b_block_Open (lf : Nat) (r : RT) (a : V) : M V := kbx 134 a fun b => kfa 0 b fun c => kld c fun d => kfa 1 b fun e => kld e fun f => kcl r 159 [d, f] fun g => kex g
  0 fun h => kex g 1 fun i => kne i (ii 0) fun c => ifV c (outK [(Value.string { data := #[] }), i]) (kcl r 160 [h] fun d => kex d 0 fun e => kex d 1 fun f => kne f (ii
  0) fun d => ifV d (outK [(Value.string { data := #[] }), (ii 25)]) ((timed (kcl r 161 [e] M.ret)).bind fun g => kfa 2 b fun i => (timed (kld i M.ret)).bind fun j =>
  kne g.1 j.1 fun l => chkT ((!(clash3 g.2 j.2) && true) && true) (ifV l (outK [(Value.string { data := #[] }), (ii 21)]) (outK [e, (ii 0)]))))
theorem st_block_Open {lf : Nat} {r : RT} {a : V} : evStep Tryz.prog gt lf r 124 #[a] = inside (b_block_Open lf r a) := by kernel_rfl

/- inspect_reader_add -/
def b_inspect_reader_add (lf : Nat) (r : RT) (a b c : V) : M V := kbx 33 b fun d => knn a fun e => kfa 4 e fun f => kld f fun g => kfa 2 d fun h => kst h g fun _ => kfa
  3 d fun e => kst e c fun _ => knn a fun e => kfa 3 e fun f => kld f fun g => klg 8 d fun h => kb1 33 8 h fun i => kap 33 8 g i fun j => knn a fun l => kfa 3 l fun m =>
  kst m j fun _ => knn a fun e => kfa 4 e fun f => kst f c fun _ => outK []
theorem st_inspect_reader_add {lf : Nat} {r : RT} {a b c : V} : evStep Tryz.prog gt lf r 125 #[a, b, c] = inside (b_inspect_reader_add lf r a b c) := by kernel_rfl

/- bits_Reader_At -/
def b_bits_Reader_At (lf : Nat) (r : RT) (a : V) : M V := kpe a nP fun b => ifV b (outK [(ii 0)]) (knn a fun c => kfa 2 c fun d => kld d fun e => outK [e])
theorem st_bits_Reader_At {lf : Nat} {r : RT} {a : V} : evStep Tryz.prog gt lf r 126 #[a] = inside (b_bits_Reader_At lf r a) := by kernel_rfl

/- crc_Combine -/
def b_crc_Combine (lf : Nat) (r : RT) (a b : V) : M V := ksl a (i6 1) fun c => ksr a (i6 31) fun d => kxo c d fun e => kxo e b fun f => outK [f]
theorem st_crc_Combine {lf : Nat} {r : RT} {a b : V} : evStep Tryz.prog gt lf r 127 #[a, b] = inside (b_crc_Combine lf r a b) := by kernel_rfl

/- balerref05_Read -/
def lpB_balerref05_Read (lf : Nat) (r : RT) : Nat→(V→V→V→V→V→V→M V)→V→V→V→V→V→V→V→V→V→V→V→M V
  | 0, _, _, _, _, _, _, _, _, _, _, _, _ => .fail
  | fu + 1, k, a, b, c, d, e, f, g, h, i, j, l => kls l (ii 16) fun m => ifV m (kad c l fun n => kit a n fun o => keq o (i1 49) fun p => ifV p (kml (ii 16) e fun n =>
   kad n l fun o => kcv .u8 o fun q => kb1 5 1 q fun s => kts s fun t => kad d t fun u => kad l (ii 1) fun d => lpB_balerref05_Read lf r fu k a b c u e f g h i j d) (kad
   l (ii 1) fun n => lpB_balerref05_Read lf r fu k a b c d e f g h i j n)) (k a b c d f g)
def sB_balerref05_Read : List Nat := [0, 2, 3, 4, 5, 9, 11, 12, 17, 22, 24]
def KBB_balerref05_Read (lf : Nat) (r : RT) (k : (V→V→V→M V) × (V→M V)) (again : V→V→V→V→V→V→M V) : (V→V→V→V→V→V→M V) := fun a b c d e f => kad c (ii 16) fun g => kad f (ii 1) fun c => again a b g d e c
def lpA_balerref05_Read (lf : Nat) (r : RT) : Nat→((V→V→V→M V) × (V→M V))→V→V→V→V→V→V→M V
  | 0, _, _, _, _, _, _, _ => .fail
  | fu + 1, k, a, b, c, d, e, f => kls f (ii 16) fun g => ifV g (kit a f fun h => kne h (i1 49) fun i => ifV i (kad f (ii 1) fun h => lpA_balerref05_Read lf r fu k a b c
   d e h) (klx a fun h => kad c (ii 16) fun j => kls h j fun l => ifV l (kbd z185 [(2, 1, (ii 3))] fun h => ksg 3 b h fun _ => k.2 b) (lpB_balerref05_Read lf r lf
   (KBB_balerref05_Read lf r k (lpA_balerref05_Read lf r fu k)) a b c d f e f g i l (ii 0)))) (k.1 b c d)
def sA_balerref05_Read : List Nat := [0, 2, 3, 4, 9, 11]
abbrev kcB_balerref05_Read (lf : Nat) (r : RT) (fu : Nat) (k : (V→V→V→M V) × (V→M V)) : (V→V→V→V→V→V→M V) := KBB_balerref05_Read lf r k (lpA_balerref05_Read lf r fu k)
def kcA_balerref05_Read (lf : Nat) (r : RT) : (V→V→V→M V) × (V→M V) := (fun a b c => keq c (Value.string { data := #[] }) fun d => ifV d (kbd z185 [(2, 1, (ii 25))] fun
  e => ksg 3 a e fun _ => klg 3 a fun b => outK [b]) (kbd z185 [(0, 1, c), (1, 1, b)] fun e => ksg 3 a e fun _ => klg 3 a fun b => outK [b]), fun a => klg 3 a fun b => outK [b])
def b_balerref05_Read (lf : Nat) (r : RT) (a : V) : M V := kal 185 z185 fun b => klx a fun c => kls c (ii 16) fun d => ifV d (kbd z185 [(2, 1, (ii 3))] fun c => ksg 3 b
  c fun _ => klg 3 b fun a => outK [a]) (lpA_balerref05_Read lf r lf (kcA_balerref05_Read lf r) a b (ii 16) (Value.string { data := #[] }) d (ii 0))
theorem lqB_balerref05_Read {lf : Nat} {r : RT} (K : KT) : ∀ fu, lpB_balerref05_Read lf r fu (fun a b c d e f => K (.exit 2) (zp [0, 2, 3, 4, 9, 11] [a, b, c, d, e, f]))
  = fun a b c d e f g h i j l => loopK (cQ 128 (pb 19 95023) lf r) sB_balerref05_Read fu (zp sB_balerref05_Read [a, b, c, d, e, f, g, h, i, j, l]) K
  | 0 => by funext a b c d e f g h i j l; kernel_rfl
  | fu + 1 => by
    have ih := lqB_balerref05_Read (lf := lf) (r := r) K fu
    funext a b c d e f g h i j l
    rw [lpB_balerref05_Read]
    simp only [ih]
    kernel_rfl
theorem kqB_balerref05_Read {lf : Nat} {r : RT} (K : KT) (fu : Nat) : KBB_balerref05_Read lf r ((fun a b c => K (.exit 0) (zp [2, 3, 4] [a, b, c]), fun a => K .ret (zp
  [2] [a]))) (fun a b c d e f => loopK (cQ 128 (pb 8 47) lf r) sA_balerref05_Read fu (zp sA_balerref05_Read [a, b, c, d, e, f]) K) = (fun a b c d e f => (iK 128 (pb 8
  47) (pb 10 371) sA_balerref05_Read fu K lf r) (.exit 2) (zp [0, 2, 3, 4, 9, 11] [a, b, c, d, e, f])) := by kernel_rfl
theorem lqA_balerref05_Read {lf : Nat} {r : RT} (K : KT) : ∀ fu, lpA_balerref05_Read lf r fu ((fun a b c => K (.exit 0) (zp [2, 3, 4] [a, b, c]), fun a => K .ret (zp [2]
  [a]))) = fun a b c d e f => loopK (cQ 128 (pb 8 47) lf r) sA_balerref05_Read fu (zp sA_balerref05_Read [a, b, c, d, e, f]) K
  | 0 => by funext a b c d e f; kernel_rfl
  | fu + 1 => by
    have ih := lqA_balerref05_Read (lf := lf) (r := r) K fu
    funext a b c d e f
    rw [lpA_balerref05_Read]
    simp only [ih, kqB_balerref05_Read, lqB_balerref05_Read]
    kernel_rfl
theorem kqA_balerref05_Read {lf : Nat} {r : RT} : kcA_balerref05_Read lf r = ((fun a b c => (tK 128 (pb 7 47) lf r) (.exit 0) (zp [2, 3, 4] [a, b, c]), fun a => (tK 128
  (pb 7 47) lf r) .ret (zp [2] [a]))) := by kernel_rfl
theorem st_balerref05_Read {lf : Nat} {r : RT} {a : V} : evStep Tryz.prog gt lf r 128 #[a] = inside (b_balerref05_Read lf r a) := by 
  unfold b_balerref05_Read
  simp only [kqA_balerref05_Read, lqA_balerref05_Read]
  kernel_rfl

/- balerref14_Read -/
def lpA_balerref14_Read (lf : Nat) (r : RT) : Nat→(V→M V)→V→V→V→V→V→V→V→V→V→V→M V
  | 0, _, _, _, _, _, _, _, _, _, _, _ => .fail
  | fu + 1, k, a, b, c, d, e, f, g, h, i, j => kln h fun l => kqu l (ii 50) fun m => kfa 0 e fun n => kld n fun o => kln o fun p => kgq m p fun q => ifV q (kbd z188 [(3,
   1, (ii 25))] fun l => ksg 4 d l fun _ => k d) (kfa 0 f fun l => kld l fun m => kfa 0 e fun n => kld n fun o => kln h fun p => kqu p (ii 50) fun s => kix o s fun t =>
   kld t fun u => kix m u fun v => kld v fun w => ksx a (some g) none fun l => kcl r 164 [w, l] fun m => kls m (ii 0) fun l => ifV l (kbd z188 [(3, 1, (ii 3))] fun n =>
   ksg 4 d n fun _ => k d) (kln h fun n => keq n c fun o => ifV o (kbd z188 [(3, 1, (ii 2))] fun n => ksg 4 d n fun _ => k d) (kix w m fun n => kld n fun p => klx p fun
   s => kad g s fun t => kb1 3 1 m fun g => kap 3 1 h g fun n => ksb b (ii 1) fun g => keq m g fun h => ifV h (kfa 0 e fun g => kld g fun p => kln p fun s => kfa 1 e fun
   u => kld u fun v => kml v b fun x => kad s x fun y => kbd z188 [(0, 1, n), (1, 1, t), (2, 1, y)] fun z => ksg 4 d z fun _ => k d) (lpA_balerref14_Read lf r fu k a b c d e f t n i j))))
def sA_balerref14_Read : List Nat := [0, 1, 2, 6, 7, 8, 9, 10, 17, 31]
def kcA_balerref14_Read (lf : Nat) (r : RT) : (V→M V) := fun a => klg 4 a fun b => outK [b]
def b_balerref14_Read (lf : Nat) (r : RT) (a b c : V) : M V := kal 188 z188 fun d => kcl r 162 [a] fun e => kal 224 z224 fun f => ksg 5 f e fun _ => kfa 4 f fun e => kld
  e fun g => kne g (ii 0) fun h => ifV h (kfa 4 f fun e => kld e fun g => kbd z188 [(3, 1, g)] fun i => ksg 4 d i fun _ => klg 4 d fun a => outK [a]) (kfa 2 f fun e =>
  (timed (kld e M.ret)).bind fun g => (timed (ksx a (some g.1) none M.ret)).bind fun i => kfa 1 f fun j => (timed (kld j M.ret)).bind fun l => (timed (kcl r 163 [i.1,
  l.1, b] M.ret)).bind fun m => (timed (kal 228 z228 M.ret)).bind fun n => (timed (ksg 3 n.1 m.1 M.ret)).bind fun o => chkT ((!(clash3 m.2 n.2) && true) && true) (kfa 2
  n.1 fun e => kld e fun g => kne g (ii 0) fun i => ifV i (kfa 2 n.1 fun e => kld e fun g => kbd z188 [(3, 1, g)] fun j => ksg 4 d j fun _ => klg 4 d fun a => outK [a])
  (kfa 2 f fun e => kld e fun g => kfa 1 n.1 fun j => kld j fun l => kad g l fun m => lpA_balerref14_Read lf r lf (kcA_balerref14_Read lf r) a b c d f n.1 m nS h i)))
theorem lqA_balerref14_Read {lf : Nat} {r : RT} (K : KT) : ∀ fu, lpA_balerref14_Read lf r fu (fun a => K .ret (zp [6] [a])) = fun a b c d e f g h i j => loopK (cQ 129
  (pb 9 127) lf r) sA_balerref14_Read fu (zp sA_balerref14_Read [a, b, c, d, e, f, g, h, i, j]) K
  | 0 => by funext a b c d e f g h i j; kernel_rfl
  | fu + 1 => by
    have ih := lqA_balerref14_Read (lf := lf) (r := r) K fu
    funext a b c d e f g h i j
    rw [lpA_balerref14_Read]
    simp only [ih]
    kernel_rfl
theorem kqA_balerref14_Read {lf : Nat} {r : RT} : kcA_balerref14_Read lf r = (fun a => (tK 129 (pb 8 127) lf r) .ret (zp [6] [a])) := by kernel_rfl
theorem st_balerref14_Read {lf : Nat} {r : RT} {a b c : V} : evStep Tryz.prog gt lf r 129 #[a, b, c] = inside (b_balerref14_Read lf r a b c) := by 
  unfold b_balerref14_Read
  simp only [kqA_balerref14_Read, lqA_balerref14_Read]
  kernel_rfl

/- balerref20_codes -/
def lpA_balerref20_codes (lf : Nat) (r : RT) : Nat→((M V) × (V→M V))→V→V→V→V→V→V→V→V→M V
  | 0, _, _, _, _, _, _, _, _, _ => .fail
  | fu + 1, k, a, b, c, d, e, f, g, h => kls h g fun i => ifV i (kix f h fun j => kld j fun l => klg 5 e fun j => kcl r 165 [j, l] fun m => kal 235 z235 fun n => ksg 8 n
   m fun _ => kfa 7 n fun j => kld j fun m => kne m (ii 0) fun o => ifV o (kfa 7 n fun j => kld j fun m => k.2 m) (kfa 0 n fun j => klg 5 j fun m => ksg 5 e m fun _ =>
   kad h (ii 1) fun j => lpA_balerref20_codes lf r fu k a b c d e f g j)) (k.1)
def sA_balerref20_codes : List Nat := [0, 1, 2, 6, 7, 14, 15, 16]
def kcA_balerref20_codes (lf : Nat) (r : RT) : (M V) × (V→M V) := (outK [(ii 0)], fun a => outK [a])
def b_balerref20_codes (lf : Nat) (r : RT) (a b c : V) : M V := kbd z233 [(0, 1, b), (1, 1, c)] fun d => kal 233 z233 fun e => ksg 5 e d fun _ => kln a fun d =>
  lpA_balerref20_codes lf r lf (kcA_balerref20_codes lf r) a b c (ii 0) e a d (ii 0)
theorem lqA_balerref20_codes {lf : Nat} {r : RT} (K : KT) : ∀ fu, lpA_balerref20_codes lf r fu ((K (.exit 0) [], fun a => K .ret (zp [6] [a]))) = fun a b c d e f g h =>
  loopK (cQ 130 (pb 6 11) lf r) sA_balerref20_codes fu (zp sA_balerref20_codes [a, b, c, d, e, f, g, h]) K
  | 0 => by funext a b c d e f g h; kernel_rfl
  | fu + 1 => by
    have ih := lqA_balerref20_codes (lf := lf) (r := r) K fu
    funext a b c d e f g h
    rw [lpA_balerref20_codes]
    simp only [ih]
    kernel_rfl
theorem kqA_balerref20_codes {lf : Nat} {r : RT} : kcA_balerref20_codes lf r = (((tK 130 (pb 5 11) lf r) (.exit 0) [], fun a => (tK 130 (pb 5 11) lf r) .ret (zp [6] [a]))) := by kernel_rfl
theorem st_balerref20_codes {lf : Nat} {r : RT} {a b c : V} : evStep Tryz.prog gt lf r 130 #[a, b, c] = inside (b_balerref20_codes lf r a b c) := by 
  unfold b_balerref20_codes
  simp only [kqA_balerref20_codes, lqA_balerref20_codes]
  kernel_rfl

/- balerref14_Some -/
def lpA_balerref14_Some (lf : Nat) (r : RT) : Nat→((V→M V) × (V→M V))→V→V→V→V→V→V→V→V→V→M V
  | 0, _, _, _, _, _, _, _, _, _, _ => .fail
  | fu + 1, k, a, b, c, d, e, f, g, h, i => kln g fun j => kqu j (ii 50) fun l => kfa 0 d fun m => kld m fun n => kln n fun o => kls l o fun p => ifV p (kfa 0 e fun j =>
   kld j fun l => kfa 0 d fun m => kld m fun n => kln g fun o => kqu o (ii 50) fun q => kix n q fun s => kld s fun t => kix l t fun u => kld u fun v => ksx a (some f)
   none fun j => kcl r 164 [v, j] fun l => kls l (ii 0) fun j => ifV j (k.2 g) (kix v l fun m => kld m fun n => klx n fun o => kad f o fun q => kb1 3 1 l fun f => kap 3
   1 g f fun m => ksb b (ii 1) fun f => keq l f fun g => ifV g (k.2 m) (lpA_balerref14_Some lf r fu k a b c d e q m h i))) (k.1 g)
def sA_balerref14_Some : List Nat := [0, 1, 4, 5, 6, 7, 8, 15, 26]
def kcA_balerref14_Some (lf : Nat) (r : RT) : (V→M V) × (V→M V) := (fun a => outK [a], fun a => outK [a])
def b_balerref14_Some (lf : Nat) (r : RT) (a b : V) : M V := kcl r 162 [a] fun c => kal 224 z224 fun d => ksg 5 d c fun _ => kfa 4 d fun c => kld c fun e => kne e (ii 0)
  fun f => ifV f (outK [nS]) (kfa 2 d fun c => (timed (kld c M.ret)).bind fun e => (timed (ksx a (some e.1) none M.ret)).bind fun g => kfa 1 d fun h => (timed (kld h
  M.ret)).bind fun i => (timed (kcl r 163 [g.1, i.1, b] M.ret)).bind fun j => (timed (kal 228 z228 M.ret)).bind fun l => (timed (ksg 3 l.1 j.1 M.ret)).bind fun m => chkT
  ((!(clash3 j.2 l.2) && true) && true) (kfa 2 l.1 fun c => kld c fun e => kne e (ii 0) fun g => ifV g (outK [nS]) (kfa 2 d fun c => kld c fun e => kfa 1 l.1 fun h =>
  kld h fun i => kad e i fun j => lpA_balerref14_Some lf r lf (kcA_balerref14_Some lf r) a b nS d l.1 j nS f g)))
theorem lqA_balerref14_Some {lf : Nat} {r : RT} (K : KT) : ∀ fu, lpA_balerref14_Some lf r fu ((fun a => K (.exit 0) (zp [8] [a]), fun a => K .ret (zp [4] [a]))) = fun a
  b c d e f g h i => loopK (cQ 131 (pb 10 127) lf r) sA_balerref14_Some fu (zp sA_balerref14_Some [a, b, c, d, e, f, g, h, i]) K
  | 0 => by funext a b c d e f g h i; kernel_rfl
  | fu + 1 => by
    have ih := lqA_balerref14_Some (lf := lf) (r := r) K fu
    funext a b c d e f g h i
    rw [lpA_balerref14_Some]
    simp only [ih]
    kernel_rfl
theorem kqA_balerref14_Some {lf : Nat} {r : RT} : kcA_balerref14_Some lf r = ((fun a => (tK 131 (pb 9 127) lf r) (.exit 0) (zp [8] [a]), fun a => (tK 131 (pb 9 127) lf r) .ret (zp [4] [a]))) := by kernel_rfl
theorem st_balerref14_Some {lf : Nat} {r : RT} {a b : V} : evStep Tryz.prog gt lf r 131 #[a, b] = inside (b_balerref14_Some lf r a b) := by 
  unfold b_balerref14_Some
  simp only [kqA_balerref14_Some, lqA_balerref14_Some]
  kernel_rfl

/- balerref07_Decode -/
def lpB_balerref07_Decode (lf : Nat) (r : RT) : Nat→(V→V→V→V→V→V→V→V→V→V→V→V→M V)→V→V→V→V→V→V→V→V→V→V→V→V→V→V→V→V→V→V→M V
  | 0, _, _, _, _, _, _, _, _, _, _, _, _, _, _, _, _, _, _, _ => .fail
  | fu + 1, k, a, b, c, d, e, f, g, h, i, j, l, m, n, o, p, q, s, t => kls t s fun u => ifV u (kb1 3 1 (ii 0) fun v => kap 3 1 g v fun w => kad t (ii 1) fun g =>
   lpB_balerref07_Decode lf r fu k a b c d e f w h i j l m n o p q s g) (k a b c d e f g i j l m n)
def sB_balerref07_Decode : List Nat := [0, 1, 2, 6, 7, 8, 9, 11, 12, 26, 30, 31, 32, 33, 41, 44, 48, 49]
def KBB_balerref07_Decode (lf : Nat) (r : RT) (k : (V→V→M V) × (V→V→M V)) (again : V→V→V→V→V→V→V→V→V→V→V→M V) : (V→V→V→V→V→V→V→V→V→V→V→V→M V) := fun a b c d e f g h i j
  l m => kfa 6 h fun n => kld n fun o => kgq o (ii 0) fun p => (fun n => ifV p (kfa 6 h fun o => kld o fun q => kb1 3 1 q fun s => kap 3 1 g s fun t => n t) (n g)) fun g
  => kfa 0 h fun n => klg 5 n fun o => ksg 5 f o fun _ => kad m (ii 1) fun n => again a b c d e f g i j l n
def lpA_balerref07_Decode (lf : Nat) (r : RT) : Nat→((V→V→M V) × (V→V→M V))→V→V→V→V→V→V→V→V→V→V→V→M V
  | 0, _, _, _, _, _, _, _, _, _, _, _, _ => .fail
  | fu + 1, k, a, b, c, d, e, f, g, h, i, j, l => kls l j fun m => ifV m (kix i l fun n => kld n fun o => klg 5 f fun n => kcl r 165 [n, o] fun p => kal 235 z235 fun q
   => ksg 8 q p fun _ => kfa 7 q fun n => kld n fun p => keq p (ii 7) fun s => ifV s (k.2 nS (ii 25)) (kfa 7 q fun n => kld n fun p => kne p (ii 0) fun t => ifV t (kfa 7
   q fun n => kld n fun p => k.2 nS p) (kfa 5 q fun n => kld n fun p => lpB_balerref07_Decode lf r lf (KBB_balerref07_Decode lf r k (lpA_balerref07_Decode lf r fu k)) a
   b c d e f g o q h i j l m s t p (ii 0)))) (k.1 f g)
def sA_balerref07_Decode : List Nat := [0, 1, 2, 6, 7, 8, 9, 26, 30, 31, 32]
abbrev kcB_balerref07_Decode (lf : Nat) (r : RT) (fu : Nat) (k : (V→V→M V) × (V→V→M V)) : (V→V→V→V→V→V→V→V→V→V→V→V→M V) := KBB_balerref07_Decode lf r k (lpA_balerref07_Decode lf r fu k)
def kcA_balerref07_Decode (lf : Nat) (r : RT) : (V→V→M V) × (V→V→M V) := (fun a b => kfa 4 a fun c => kld c fun d => knt d fun e => ifV e (outK [nS, (ii 24)]) (outK [b, (ii 0)]), fun a b => outK [a, b])
def b_balerref07_Decode (lf : Nat) (r : RT) (a b c : V) : M V := kls b (ii 1) fun d => ifV d (outK [nS, (ii 1)]) (kgr b (ii 256) fun e => ifV e (outK [nS, (ii 1)]) (kls
  c (ii 0) fun f => ifV f (outK [nS, (ii 1)]) (kgr c (ii 1099511627776) fun g => ifV g (outK [nS, (ii 1)]) (kbd z233 [(0, 1, b), (1, 1, c)] fun d => kal 233 z233 fun e
  => ksg 5 e d fun _ => kln a fun d => lpA_balerref07_Decode lf r lf (kcA_balerref07_Decode lf r) a b c nS (ii 0) e nS g a d (ii 0)))))
theorem lqB_balerref07_Decode {lf : Nat} {r : RT} (K : KT) : ∀ fu, lpB_balerref07_Decode lf r fu (fun a b c d e f g h i j l m => K (.exit 2) (zp [0, 1, 2, 6, 7, 8, 9,
  12, 26, 30, 31, 32] [a, b, c, d, e, f, g, h, i, j, l, m])) = fun a b c d e f g h i j l m n o p q s t => loopK (cQ 132 (pb 20 193327) lf r) sB_balerref07_Decode fu (zp
  sB_balerref07_Decode [a, b, c, d, e, f, g, h, i, j, l, m, n, o, p, q, s, t]) K
  | 0 => by funext a b c d e f g h i j l m n o p q s t; kernel_rfl
  | fu + 1 => by
    have ih := lqB_balerref07_Decode (lf := lf) (r := r) K fu
    funext a b c d e f g h i j l m n o p q s t
    rw [lpB_balerref07_Decode]
    simp only [ih]
    kernel_rfl
theorem kqB_balerref07_Decode {lf : Nat} {r : RT} (K : KT) (fu : Nat) : KBB_balerref07_Decode lf r ((fun a b => K (.exit 0) (zp [8, 9] [a, b]), fun a b => K .ret (zp [6,
  7] [a, b]))) (fun a b c d e f g h i j l => loopK (cQ 132 (pb 8 47) lf r) sA_balerref07_Decode fu (zp sA_balerref07_Decode [a, b, c, d, e, f, g, h, i, j, l]) K) = (fun
  a b c d e f g h i j l m => (iK 132 (pb 8 47) (pb 11 755) sA_balerref07_Decode fu K lf r) (.exit 2) (zp [0, 1, 2, 6, 7, 8, 9, 12, 26, 30, 31, 32] [a, b, c, d, e, f, g, h, i, j, l, m])) := by kernel_rfl
theorem lqA_balerref07_Decode {lf : Nat} {r : RT} (K : KT) : ∀ fu, lpA_balerref07_Decode lf r fu ((fun a b => K (.exit 0) (zp [8, 9] [a, b]), fun a b => K .ret (zp [6,
  7] [a, b]))) = fun a b c d e f g h i j l => loopK (cQ 132 (pb 8 47) lf r) sA_balerref07_Decode fu (zp sA_balerref07_Decode [a, b, c, d, e, f, g, h, i, j, l]) K
  | 0 => by funext a b c d e f g h i j l; kernel_rfl
  | fu + 1 => by
    have ih := lqA_balerref07_Decode (lf := lf) (r := r) K fu
    funext a b c d e f g h i j l
    rw [lpA_balerref07_Decode]
    simp only [ih, kqB_balerref07_Decode, lqB_balerref07_Decode]
    kernel_rfl
theorem kqA_balerref07_Decode {lf : Nat} {r : RT} : kcA_balerref07_Decode lf r = ((fun a b => (tK 132 (pb 7 47) lf r) (.exit 0) (zp [8, 9] [a, b]), fun a b => (tK 132
  (pb 7 47) lf r) .ret (zp [6, 7] [a, b]))) := by kernel_rfl
theorem st_balerref07_Decode {lf : Nat} {r : RT} {a b c : V} : evStep Tryz.prog gt lf r 132 #[a, b, c] = inside (b_balerref07_Decode lf r a b c) := by 
  unfold b_balerref07_Decode
  simp only [kqA_balerref07_Decode, lqA_balerref07_Decode]
  kernel_rfl

/- balerref06_Decode -/
def lpA_balerref06_Decode (lf : Nat) (r : RT) : Nat→((V→M V) × (V→V→M V))→V→V→V→V→V→V→V→V→V→V→M V
  | 0, _, _, _, _, _, _, _, _, _, _, _ => .fail
  | fu + 1, k, a, b, c, d, e, f, g, h, i, j => kls j i fun l => ifV l (kix h j fun m => kld m fun n => kls n (ii 0) fun m => ifV m (k.2 (Value.string { data := #[] })
   (ii 1)) (klx f fun o => kgq n o fun p => ifV p (k.2 (Value.string { data := #[] }) (ii 1)) (kad n (ii 1) fun m => ksx f (some n) (some m) fun o => kad e o fun q =>
   kcl r 167 [f, n] fun e => kad j (ii 1) fun f => lpA_balerref06_Decode lf r fu k a b c d q e g h i f))) (k.1 e)
def sA_balerref06_Decode : List Nat := [0, 1, 4, 5, 6, 7, 12, 14, 15, 16]
def kcA_balerref06_Decode (lf : Nat) (r : RT) : (V→M V) × (V→V→M V) := (fun a => outK [a, (ii 0)], fun a b => outK [a, b])
def b_balerref06_Decode (lf : Nat) (r : RT) (a b : V) : M V := kcl r 166 [b] fun c => knt c fun d => ifV d (outK [(Value.string { data := #[] }), (ii 1)]) (kln a fun c
  => lpA_balerref06_Decode lf r lf (kcA_balerref06_Decode lf r) a b (Value.string { data := #[] }) (ii 0) (Value.string { data := #[] }) b d a c (ii 0))
theorem lqA_balerref06_Decode {lf : Nat} {r : RT} (K : KT) : ∀ fu, lpA_balerref06_Decode lf r fu ((fun a => K (.exit 0) (zp [6] [a]), fun a b => K .ret (zp [4, 5] [a,
  b]))) = fun a b c d e f g h i j => loopK (cQ 133 (pb 8 47) lf r) sA_balerref06_Decode fu (zp sA_balerref06_Decode [a, b, c, d, e, f, g, h, i, j]) K
  | 0 => by funext a b c d e f g h i j; kernel_rfl
  | fu + 1 => by
    have ih := lqA_balerref06_Decode (lf := lf) (r := r) K fu
    funext a b c d e f g h i j
    rw [lpA_balerref06_Decode]
    simp only [ih]
    kernel_rfl
theorem kqA_balerref06_Decode {lf : Nat} {r : RT} : kcA_balerref06_Decode lf r = ((fun a => (tK 133 (pb 7 47) lf r) (.exit 0) (zp [6] [a]), fun a b => (tK 133 (pb 7 47)
  lf r) .ret (zp [4, 5] [a, b]))) := by kernel_rfl
theorem st_balerref06_Decode {lf : Nat} {r : RT} {a b : V} : evStep Tryz.prog gt lf r 133 #[a, b] = inside (b_balerref06_Decode lf r a b) := by 
  unfold b_balerref06_Decode
  simp only [kqA_balerref06_Decode, lqA_balerref06_Decode]
  kernel_rfl

/- balerref03_Decode -/
def lpB_balerref03_Decode (lf : Nat) (r : RT) : Nat→(V→V→V→V→M V)→V→V→V→V→V→V→V→V→V→V→M V
  | 0, _, _, _, _, _, _, _, _, _, _, _ => .fail
  | fu + 1, k, a, b, c, d, e, f, g, h, i, j => kls j i fun l => ifV l (ksx a none (some (ii 1)) fun m => kad d m fun n => kad j (ii 1) fun d => lpB_balerref03_Decode lf r fu k a b c n e f g h i d) (k a b c d)
def sB_balerref03_Decode : List Nat := [0, 2, 3, 4, 7, 10, 19, 22, 26, 27]
def KBB_balerref03_Decode (lf : Nat) (r : RT) (k : (V→M V) × (V→V→M V)) (again : V→V→V→V→M V) : (V→V→V→V→M V) := fun a b c d => ksx a (some (ii 5)) none fun e => again e b c d
def lpA_balerref03_Decode (lf : Nat) (r : RT) : Nat→((V→M V) × (V→V→M V))→V→V→V→V→M V
  | 0, _, _, _, _, _ => .fail
  | fu + 1, k, a, b, c, d => klx a fun e => kgr e (ii 0) fun f => ifV f (kcl r 168 [a] fun e => knt e fun g => ifV g (ksx a none (some (ii 1)) fun e => kad d e fun h =>
   ksx a (some (ii 1)) none fun d => lpA_balerref03_Decode lf r fu k d b c h) (klx a fun e => keq e (ii 4) fun h => ifV h (k.2 (Value.string { data := #[] }) (ii 24))
   (kit a (ii 4) fun e => kgr e (i1 251) fun i => ifV i (k.2 (Value.string { data := #[] }) (ii 25)) (kit a (ii 4) fun e => kcv .i64 e fun j => kad (ii 4) j fun l =>
   lpB_balerref03_Decode lf r lf (KBB_balerref03_Decode lf r k (lpA_balerref03_Decode lf r fu k)) a b c d f g h i l (ii 0))))) (k.1 d)
def sA_balerref03_Decode : List Nat := [0, 2, 3, 4]
abbrev kcB_balerref03_Decode (lf : Nat) (r : RT) (fu : Nat) (k : (V→M V) × (V→V→M V)) : (V→V→V→V→M V) := KBB_balerref03_Decode lf r k (lpA_balerref03_Decode lf r fu k)
def kcA_balerref03_Decode (lf : Nat) (r : RT) : (V→M V) × (V→V→M V) := (fun a => outK [a, (ii 0)], fun a b => outK [a, b])
def b_balerref03_Decode (lf : Nat) (r : RT) (a : V) : M V := lpA_balerref03_Decode lf r lf (kcA_balerref03_Decode lf r) a (Value.string { data := #[] }) (ii 0) (Value.string { data := #[] })
theorem lqB_balerref03_Decode {lf : Nat} {r : RT} (K : KT) : ∀ fu, lpB_balerref03_Decode lf r fu (fun a b c d => K (.exit 2) (zp [0, 2, 3, 4] [a, b, c, d])) = fun a b c
  d e f g h i j => loopK (cQ 134 (pb 14 2979) lf r) sB_balerref03_Decode fu (zp sB_balerref03_Decode [a, b, c, d, e, f, g, h, i, j]) K
  | 0 => by funext a b c d e f g h i j; kernel_rfl
  | fu + 1 => by
    have ih := lqB_balerref03_Decode (lf := lf) (r := r) K fu
    funext a b c d e f g h i j
    rw [lpB_balerref03_Decode]
    simp only [ih]
    kernel_rfl
theorem kqB_balerref03_Decode {lf : Nat} {r : RT} (K : KT) (fu : Nat) : KBB_balerref03_Decode lf r ((fun a => K (.exit 0) (zp [4] [a]), fun a b => K .ret (zp [2, 3] [a,
  b]))) (fun a b c d => loopK (cQ 134 (pb 5 3) lf r) sA_balerref03_Decode fu (zp sA_balerref03_Decode [a, b, c, d]) K) = (fun a b c d => (iK 134 (pb 5 3) (pb 8 93)
  sA_balerref03_Decode fu K lf r) (.exit 2) (zp [0, 2, 3, 4] [a, b, c, d])) := by kernel_rfl
theorem lqA_balerref03_Decode {lf : Nat} {r : RT} (K : KT) : ∀ fu, lpA_balerref03_Decode lf r fu ((fun a => K (.exit 0) (zp [4] [a]), fun a b => K .ret (zp [2, 3] [a,
  b]))) = fun a b c d => loopK (cQ 134 (pb 5 3) lf r) sA_balerref03_Decode fu (zp sA_balerref03_Decode [a, b, c, d]) K
  | 0 => by funext a b c d; kernel_rfl
  | fu + 1 => by
    have ih := lqA_balerref03_Decode (lf := lf) (r := r) K fu
    funext a b c d
    rw [lpA_balerref03_Decode]
    simp only [ih, kqB_balerref03_Decode, lqB_balerref03_Decode]
    kernel_rfl
theorem kqA_balerref03_Decode {lf : Nat} {r : RT} : kcA_balerref03_Decode lf r = ((fun a => (tK 134 (pb 4 3) lf r) (.exit 0) (zp [4] [a]), fun a b => (tK 134 (pb 4 3) lf
  r) .ret (zp [2, 3] [a, b]))) := by kernel_rfl
theorem st_balerref03_Decode {lf : Nat} {r : RT} {a : V} : evStep Tryz.prog gt lf r 134 #[a] = inside (b_balerref03_Decode lf r a) := by 
  unfold b_balerref03_Decode
  simp only [kqA_balerref03_Decode, lqA_balerref03_Decode]
  kernel_rfl

/- balerref18_Of -/
def lpA_balerref18_Of (lf : Nat) (r : RT) : Nat→(V→M V)→V→V→V→V→V→V→V→V→M V
  | 0, _, _, _, _, _, _, _, _, _ => .fail
  | fu + 1, k, a, b, c, d, e, f, g, h => kls h g fun i => ifV i (kix d f fun j => kld j fun l => kad l (ii 1) fun f => ksx a (some l) (some f) fun j => kad e j fun m =>
   kad h (ii 1) fun e => lpA_balerref18_Of lf r fu k a b c d m l g e) (k e)
def sA_balerref18_Of : List Nat := [0, 1, 4, 5, 6, 7, 12, 13]
def kcA_balerref18_Of (lf : Nat) (r : RT) : (V→M V) := fun a => outK [a]
def b_balerref18_Of (lf : Nat) (r : RT) (a b : V) : M V := kcl r 169 [a] fun c => klx a fun d => lpA_balerref18_Of lf r lf (kcA_balerref18_Of lf r) a b (Value.string {
  data := #[] }) c (Value.string { data := #[] }) b d (ii 0)
theorem lqA_balerref18_Of {lf : Nat} {r : RT} (K : KT) : ∀ fu, lpA_balerref18_Of lf r fu (fun a => K (.exit 0) (zp [6] [a])) = fun a b c d e f g h => loopK (cQ 135 (pb 8
  47) lf r) sA_balerref18_Of fu (zp sA_balerref18_Of [a, b, c, d, e, f, g, h]) K
  | 0 => by funext a b c d e f g h; kernel_rfl
  | fu + 1 => by
    have ih := lqA_balerref18_Of (lf := lf) (r := r) K fu
    funext a b c d e f g h
    rw [lpA_balerref18_Of]
    simp only [ih]
    kernel_rfl
theorem kqA_balerref18_Of {lf : Nat} {r : RT} : kcA_balerref18_Of lf r = (fun a => (tK 135 (pb 7 47) lf r) (.exit 0) (zp [6] [a])) := by kernel_rfl
theorem st_balerref18_Of {lf : Nat} {r : RT} {a b : V} : evStep Tryz.prog gt lf r 135 #[a, b] = inside (b_balerref18_Of lf r a b) := by 
  unfold b_balerref18_Of
  simp only [kqA_balerref18_Of, lqA_balerref18_Of]
  kernel_rfl

/- balerref03_row -/
def lpA_balerref03_row (lf : Nat) (r : RT) : Nat→(V→M V)→V→V→V→M V
  | 0, _, _, _, _ => .fail
  | fu + 1, k, a, b, c => klx a fun d => kls c d fun e => ifV e (kls c (ii 255) fun f => ifV f (kit a c fun g => kit a (ii 0) fun h => keq g h fun i => ifV i (kad c (ii
   1) fun d => lpA_balerref03_row lf r fu k a b d) (k c)) (k c)) (k c)
def sA_balerref03_row : List Nat := [0, 2, 3]
def kcA_balerref03_row (lf : Nat) (r : RT) : (V→M V) := fun a => outK [a]
def b_balerref03_row (lf : Nat) (r : RT) (a : V) : M V := lpA_balerref03_row lf r lf (kcA_balerref03_row lf r) a (ii 0) (ii 0)
theorem lqA_balerref03_row {lf : Nat} {r : RT} (K : KT) : ∀ fu, lpA_balerref03_row lf r fu (fun a => K (.exit 0) (zp [3] [a])) = fun a b c => loopK (cQ 137 (pb 5 3) lf
  r) sA_balerref03_row fu (zp sA_balerref03_row [a, b, c]) K
  | 0 => by funext a b c; kernel_rfl
  | fu + 1 => by
    have ih := lqA_balerref03_row (lf := lf) (r := r) K fu
    funext a b c
    rw [lpA_balerref03_row]
    simp only [ih]
    kernel_rfl
theorem kqA_balerref03_row {lf : Nat} {r : RT} : kcA_balerref03_row lf r = (fun a => (tK 137 (pb 4 3) lf r) (.exit 0) (zp [3] [a])) := by kernel_rfl
theorem st_balerref03_row {lf : Nat} {r : RT} {a : V} : evStep Tryz.prog gt lf r 137 #[a] = inside (b_balerref03_row lf r a) := by 
  unfold b_balerref03_row
  simp only [kqA_balerref03_row, lqA_balerref03_row]
  kernel_rfl

/- balerref17_From -/
def lpA_balerref17_From (lf : Nat) (r : RT) : Nat→(V→V→M V)→V→V→V→V→V→V→V→M V
  | 0, _, _, _, _, _, _, _, _ => .fail
  | fu + 1, k, a, b, c, d, e, f, g => kls g f fun h => ifV h (kix e g fun i => kld i fun j => kcl r 170 [a, j] fun i => kfa 0 d fun l => kld l fun m => klx i fun n =>
   ksb n (ii 1) fun o => ksx i (some o) none fun p => kad m p fun q => kfa 0 d fun s => kst s q fun _ => keq j (ii 0) fun l => ifV l (kfa 1 d fun m => kst m g fun _ =>
   kad g (ii 1) fun m => lpA_balerref17_From lf r fu k a b c d e f m) (kad g (ii 1) fun m => lpA_balerref17_From lf r fu k a b c d e f m)) (k c d)
def sA_balerref17_From : List Nat := [0, 1, 4, 5, 10, 11, 12]
def kcA_balerref17_From (lf : Nat) (r : RT) : (V→V→M V) := fun a b => klg 2 b fun c => ksg 2 a c fun _ => klg 2 a fun b => outK [b]
def b_balerref17_From (lf : Nat) (r : RT) (a b : V) : M V := kal 171 z171 fun c => kbd z171 [] fun d => kal 171 z171 fun e => ksg 2 e d fun _ => kln b fun d =>
  lpA_balerref17_From lf r lf (kcA_balerref17_From lf r) a b c e b d (ii 0)
theorem lqA_balerref17_From {lf : Nat} {r : RT} (K : KT) : ∀ fu, lpA_balerref17_From lf r fu (fun a b => K (.exit 0) (zp [4, 5] [a, b])) = fun a b c d e f g => loopK (cQ
  138 (pb 6 11) lf r) sA_balerref17_From fu (zp sA_balerref17_From [a, b, c, d, e, f, g]) K
  | 0 => by funext a b c d e f g; kernel_rfl
  | fu + 1 => by
    have ih := lqA_balerref17_From (lf := lf) (r := r) K fu
    funext a b c d e f g
    rw [lpA_balerref17_From]
    simp only [ih]
    kernel_rfl
theorem kqA_balerref17_From {lf : Nat} {r : RT} : kcA_balerref17_From lf r = (fun a b => (tK 138 (pb 5 11) lf r) (.exit 0) (zp [4, 5] [a, b])) := by kernel_rfl
theorem st_balerref17_From {lf : Nat} {r : RT} {a b : V} : evStep Tryz.prog gt lf r 138 #[a, b] = inside (b_balerref17_From lf r a b) := by 
  unfold b_balerref17_From
  simp only [kqA_balerref17_From, lqA_balerref17_From]
  kernel_rfl

/- balerref15_Sorted -/
def lpB_balerref15_Sorted (lf : Nat) (r : RT) : Nat→(V→V→V→V→V→V→V→M V)→V→V→V→V→V→V→V→V→V→V→V→V→M V
  | 0, _, _, _, _, _, _, _, _, _, _, _, _, _ => .fail
  | fu + 1, k, a, b, c, d, e, f, g, h, i, j, l, m => kls m l fun n => ifV n (kix j m fun o => kld o fun p => knt f fun o => ifV o (kcl r 171 [a, d, p] fun q => (fun o =>
   ifV q (kb1 3 1 d fun s => kap 3 1 e s fun t => o t bT) (o e f)) fun e f => kb1 3 1 p fun o => kap 3 1 e o fun s => kad m (ii 1) fun e => lpB_balerref15_Sorted lf r fu
   k a b c d s f g h i j l e) (kb1 3 1 p fun o => kap 3 1 e o fun q => kad m (ii 1) fun e => lpB_balerref15_Sorted lf r fu k a b c d q f g h i j l e)) (k a b d e f g h)
def sB_balerref15_Sorted : List Nat := [0, 2, 3, 4, 5, 6, 10, 11, 12, 14, 15, 16]
def KBB_balerref15_Sorted (lf : Nat) (r : RT) (k : (V→M V)) (again : V→V→V→V→V→M V) : (V→V→V→V→V→V→V→M V) := fun a b c d e f g => knt e fun h => ifV h (kb1 3 1 c fun i
  => kap 3 1 d i fun j => kad g (ii 1) fun d => again a b j f d) (kad g (ii 1) fun i => again a b d f i)
def lpA_balerref15_Sorted (lf : Nat) (r : RT) : Nat→(V→M V)→V→V→V→V→V→M V
  | 0, _, _, _, _, _, _ => .fail
  | fu + 1, k, a, b, c, d, e => kls e d fun f => ifV f (kln c fun g => lpB_balerref15_Sorted lf r lf (KBB_balerref15_Sorted lf r k (lpA_balerref15_Sorted lf r fu k)) a b c e nS bF d e f c g (ii 0)) (k c)
def sA_balerref15_Sorted : List Nat := [0, 2, 3, 10, 11]
abbrev kcB_balerref15_Sorted (lf : Nat) (r : RT) (fu : Nat) (k : (V→M V)) : (V→V→V→V→V→V→V→M V) := KBB_balerref15_Sorted lf r k (lpA_balerref15_Sorted lf r fu k)
def kcA_balerref15_Sorted (lf : Nat) (r : RT) : (V→M V) := fun a => outK [a]
def b_balerref15_Sorted (lf : Nat) (r : RT) (a : V) : M V := klx a fun b => lpA_balerref15_Sorted lf r lf (kcA_balerref15_Sorted lf r) a nS nS b (ii 0)
theorem lqB_balerref15_Sorted {lf : Nat} {r : RT} (K : KT) : ∀ fu, lpB_balerref15_Sorted lf r fu (fun a b c d e f g => K (.exit 2) (zp [0, 2, 4, 5, 6, 10, 11] [a, b, c,
  d, e, f, g])) = fun a b c d e f g h i j l m => loopK (cQ 139 (pb 17 23755) lf r) sB_balerref15_Sorted fu (zp sB_balerref15_Sorted [a, b, c, d, e, f, g, h, i, j, l, m]) K
  | 0 => by funext a b c d e f g h i j l m; kernel_rfl
  | fu + 1 => by
    have ih := lqB_balerref15_Sorted (lf := lf) (r := r) K fu
    funext a b c d e f g h i j l m
    rw [lpB_balerref15_Sorted]
    simp only [ih]
    kernel_rfl
theorem kqB_balerref15_Sorted {lf : Nat} {r : RT} (K : KT) (fu : Nat) : KBB_balerref15_Sorted lf r (fun a => K (.exit 0) (zp [3] [a])) (fun a b c d e => loopK (cQ 139
  (pb 6 11) lf r) sA_balerref15_Sorted fu (zp sA_balerref15_Sorted [a, b, c, d, e]) K) = (fun a b c d e f g => (iK 139 (pb 6 11) (pb 10 371) sA_balerref15_Sorted fu K lf
  r) (.exit 2) (zp [0, 2, 4, 5, 6, 10, 11] [a, b, c, d, e, f, g])) := by kernel_rfl
theorem lqA_balerref15_Sorted {lf : Nat} {r : RT} (K : KT) : ∀ fu, lpA_balerref15_Sorted lf r fu (fun a => K (.exit 0) (zp [3] [a])) = fun a b c d e => loopK (cQ 139 (pb
  6 11) lf r) sA_balerref15_Sorted fu (zp sA_balerref15_Sorted [a, b, c, d, e]) K
  | 0 => by funext a b c d e; kernel_rfl
  | fu + 1 => by
    have ih := lqA_balerref15_Sorted (lf := lf) (r := r) K fu
    funext a b c d e
    rw [lpA_balerref15_Sorted]
    simp only [ih, kqB_balerref15_Sorted, lqB_balerref15_Sorted]
    kernel_rfl
theorem kqA_balerref15_Sorted {lf : Nat} {r : RT} : kcA_balerref15_Sorted lf r = (fun a => (tK 139 (pb 5 11) lf r) (.exit 0) (zp [3] [a])) := by kernel_rfl
theorem st_balerref15_Sorted {lf : Nat} {r : RT} {a : V} : evStep Tryz.prog gt lf r 139 #[a] = inside (b_balerref15_Sorted lf r a) := by 
  unfold b_balerref15_Sorted
  simp only [kqA_balerref15_Sorted, lqA_balerref15_Sorted]
  kernel_rfl

/- balerref05_Symbols -/
def lpA_balerref05_Symbols (lf : Nat) (r : RT) : Nat→(V→M V)→V→V→V→V→M V
  | 0, _, _, _, _, _ => .fail
  | fu + 1, k, a, b, c, d => kls d (ii 256) fun e => ifV e (kcl r 172 [a, d] fun f => ifV f (kcv .u8 d fun g => kb1 5 1 g fun h => kts h fun i => kad c i fun j => kad d
   (ii 1) fun c => lpA_balerref05_Symbols lf r fu k a b j c) (kad d (ii 1) fun g => lpA_balerref05_Symbols lf r fu k a b c g)) (k c)
def sA_balerref05_Symbols : List Nat := [0, 2, 3, 5]
def kcA_balerref05_Symbols (lf : Nat) (r : RT) : (V→M V) := fun a => outK [a]
def b_balerref05_Symbols (lf : Nat) (r : RT) (a : V) : M V := lpA_balerref05_Symbols lf r lf (kcA_balerref05_Symbols lf r) a (Value.string { data := #[] }) (Value.string { data := #[] }) (ii 0)
theorem lqA_balerref05_Symbols {lf : Nat} {r : RT} (K : KT) : ∀ fu, lpA_balerref05_Symbols lf r fu (fun a => K (.exit 0) (zp [3] [a])) = fun a b c d => loopK (cQ 140 (pb
  6 11) lf r) sA_balerref05_Symbols fu (zp sA_balerref05_Symbols [a, b, c, d]) K
  | 0 => by funext a b c d; kernel_rfl
  | fu + 1 => by
    have ih := lqA_balerref05_Symbols (lf := lf) (r := r) K fu
    funext a b c d
    rw [lpA_balerref05_Symbols]
    simp only [ih]
    kernel_rfl
theorem kqA_balerref05_Symbols {lf : Nat} {r : RT} : kcA_balerref05_Symbols lf r = (fun a => (tK 140 (pb 5 11) lf r) (.exit 0) (zp [3] [a])) := by kernel_rfl
theorem st_balerref05_Symbols {lf : Nat} {r : RT} {a : V} : evStep Tryz.prog gt lf r 140 #[a] = inside (b_balerref05_Symbols lf r a) := by 
  unfold b_balerref05_Symbols
  simp only [kqA_balerref05_Symbols, lqA_balerref05_Symbols]
  kernel_rfl

/- balerref06_Encode -/
def lpA_balerref06_Encode (lf : Nat) (r : RT) : Nat→((V→M V) × (V→V→M V))→V→V→V→V→V→V→V→V→M V
  | 0, _, _, _, _, _, _, _, _, _ => .fail
  | fu + 1, k, a, b, c, d, e, f, g, h => klx a fun i => kls g i fun j => ifV j (kit a g fun i => kcl r 173 [f, i] fun l => kls l (ii 0) fun i => ifV i (k.2 nS (ii 6))
   (kb1 3 1 l fun m => kap 3 1 e m fun n => kcl r 167 [f, l] fun e => kad g (ii 1) fun f => lpA_balerref06_Encode lf r fu k a b c d n e f h)) (k.1 e)
def sA_balerref06_Encode : List Nat := [0, 1, 4, 5, 6, 7, 8, 12]
def kcA_balerref06_Encode (lf : Nat) (r : RT) : (V→M V) × (V→V→M V) := (fun a => outK [a, (ii 0)], fun a b => outK [a, b])
def b_balerref06_Encode (lf : Nat) (r : RT) (a b : V) : M V := kcl r 166 [b] fun c => knt c fun d => ifV d (outK [nS, (ii 1)]) (lpA_balerref06_Encode lf r lf
  (kcA_balerref06_Encode lf r) a b nS (ii 0) nS b (ii 0) d)
theorem lqA_balerref06_Encode {lf : Nat} {r : RT} (K : KT) : ∀ fu, lpA_balerref06_Encode lf r fu ((fun a => K (.exit 0) (zp [6] [a]), fun a b => K .ret (zp [4, 5] [a,
  b]))) = fun a b c d e f g h => loopK (cQ 141 (pb 8 47) lf r) sA_balerref06_Encode fu (zp sA_balerref06_Encode [a, b, c, d, e, f, g, h]) K
  | 0 => by funext a b c d e f g h; kernel_rfl
  | fu + 1 => by
    have ih := lqA_balerref06_Encode (lf := lf) (r := r) K fu
    funext a b c d e f g h
    rw [lpA_balerref06_Encode]
    simp only [ih]
    kernel_rfl
theorem kqA_balerref06_Encode {lf : Nat} {r : RT} : kcA_balerref06_Encode lf r = ((fun a => (tK 141 (pb 7 47) lf r) (.exit 0) (zp [6] [a]), fun a b => (tK 141 (pb 7 47)
  lf r) .ret (zp [4, 5] [a, b]))) := by kernel_rfl
theorem st_balerref06_Encode {lf : Nat} {r : RT} {a b : V} : evStep Tryz.prog gt lf r 141 #[a, b] = inside (b_balerref06_Encode lf r a b) := by 
  unfold b_balerref06_Encode
  simp only [kqA_balerref06_Encode, lqA_balerref06_Encode]
  kernel_rfl

/- balerref07_Encode -/
def lpA_balerref07_Encode (lf : Nat) (r : RT) : Nat→((V→V→V→M V) × (V→V→M V))→V→V→V→V→V→V→V→V→V→V→M V
  | 0, _, _, _, _, _, _, _, _, _, _, _ => .fail
  | fu + 1, k, a, b, c, d, e, f, g, h, i, j => kls j i fun l => ifV l (kix h j fun m => kld m fun n => kls n (ii 0) fun m => ifV m (k.2 nS (ii 1)) (kgq n b fun o => ifV
   o (k.2 nS (ii 1)) (keq n (ii 0) fun m => ifV m (kad f (ii 1) fun p => kad j (ii 1) fun f => lpA_balerref07_Encode lf r fu k a b c d e p g h i f) (kcl r 174 [f] fun p
   => kap 3 1 e p fun q => kad n (ii 1) fun e => kb1 3 1 e fun p => kap 3 1 q p fun s => kad j (ii 1) fun e => lpA_balerref07_Encode lf r fu k a b c d s (ii 0) g h i e)))) (k.1 b e f)
def sA_balerref07_Encode : List Nat := [0, 1, 4, 5, 6, 7, 15, 16, 17, 18]
def kcA_balerref07_Encode (lf : Nat) (r : RT) : (V→V→V→M V) × (V→V→M V) := (fun a b c => kcl r 174 [c] fun d => kap 3 1 b d fun e => kad a (ii 1) fun b => kb1 3 1 b fun
  d => kap 3 1 e d fun f => outK [f, (ii 0)], fun a b => outK [a, b])
def b_balerref07_Encode (lf : Nat) (r : RT) (a b : V) : M V := kls b (ii 1) fun c => ifV c (outK [nS, (ii 1)]) (kgr b (ii 256) fun d => ifV d (outK [nS, (ii 1)]) (kln a
  fun c => lpA_balerref07_Encode lf r lf (kcA_balerref07_Encode lf r) a b nS (ii 0) nS (ii 0) d a c (ii 0)))
theorem lqA_balerref07_Encode {lf : Nat} {r : RT} (K : KT) : ∀ fu, lpA_balerref07_Encode lf r fu ((fun a b c => K (.exit 0) (zp [1, 6, 7] [a, b, c]), fun a b => K .ret
  (zp [4, 5] [a, b]))) = fun a b c d e f g h i j => loopK (cQ 142 (pb 8 47) lf r) sA_balerref07_Encode fu (zp sA_balerref07_Encode [a, b, c, d, e, f, g, h, i, j]) K
  | 0 => by funext a b c d e f g h i j; kernel_rfl
  | fu + 1 => by
    have ih := lqA_balerref07_Encode (lf := lf) (r := r) K fu
    funext a b c d e f g h i j
    rw [lpA_balerref07_Encode]
    simp only [ih]
    kernel_rfl
theorem kqA_balerref07_Encode {lf : Nat} {r : RT} : kcA_balerref07_Encode lf r = ((fun a b c => (tK 142 (pb 7 47) lf r) (.exit 0) (zp [1, 6, 7] [a, b, c]), fun a b =>
  (tK 142 (pb 7 47) lf r) .ret (zp [4, 5] [a, b]))) := by kernel_rfl
theorem st_balerref07_Encode {lf : Nat} {r : RT} {a b : V} : evStep Tryz.prog gt lf r 142 #[a, b] = inside (b_balerref07_Encode lf r a b) := by 
  unfold b_balerref07_Encode
  simp only [kqA_balerref07_Encode, lqA_balerref07_Encode]
  kernel_rfl

/- balerref05_Bits -/
def lpB_balerref05_Bits (lf : Nat) (r : RT) : Nat→(V→V→V→V→V→V→V→M V)→V→V→V→V→V→V→V→V→V→V→M V
  | 0, _, _, _, _, _, _, _, _, _, _, _ => .fail
  | fu + 1, k, a, b, c, d, e, f, g, h, i, j => kls j (ii 16) fun l => ifV l (kml (ii 16) e fun m => kad m j fun n => kcl r 172 [a, n] fun o => ifV o (kad f (Value.string
   { data := #[49] }) fun m => kad j (ii 1) fun f => lpB_balerref05_Bits lf r fu k a b c d e m bT h i f) (kad f (Value.string { data := #[48] }) fun m => kad j (ii 1)
   fun f => lpB_balerref05_Bits lf r fu k a b c d e m g h i f)) (k a b c d f g h)
def sB_balerref05_Bits : List Nat := [0, 2, 3, 4, 5, 6, 7, 9, 10, 12]
def KBB_balerref05_Bits (lf : Nat) (r : RT) (k : (V→V→M V)) (again : V→V→V→V→V→M V) : (V→V→V→V→V→V→V→M V) := fun a b c d e f g => ifV f (kad c (Value.string { data :=
  #[49] }) fun h => kad d e fun c => kad g (ii 1) fun d => again a b h c d) (kad c (Value.string { data := #[48] }) fun h => kad g (ii 1) fun c => again a b h d c)
def lpA_balerref05_Bits (lf : Nat) (r : RT) : Nat→(V→V→M V)→V→V→V→V→V→M V
  | 0, _, _, _, _, _, _ => .fail
  | fu + 1, k, a, b, c, d, e => kls e (ii 16) fun f => ifV f (lpB_balerref05_Bits lf r lf (KBB_balerref05_Bits lf r k (lpA_balerref05_Bits lf r fu k)) a b c d e
   (Value.string { data := #[] }) bF e f (ii 0)) (k c d)
def sA_balerref05_Bits : List Nat := [0, 2, 3, 4, 9]
abbrev kcB_balerref05_Bits (lf : Nat) (r : RT) (fu : Nat) (k : (V→V→M V)) : (V→V→V→V→V→V→V→M V) := KBB_balerref05_Bits lf r k (lpA_balerref05_Bits lf r fu k)
def kcA_balerref05_Bits (lf : Nat) (r : RT) : (V→V→M V) := fun a b => kad a b fun c => outK [c]
def b_balerref05_Bits (lf : Nat) (r : RT) (a : V) : M V := lpA_balerref05_Bits lf r lf (kcA_balerref05_Bits lf r) a (Value.string { data := #[] }) (Value.string { data
  := #[] }) (Value.string { data := #[] }) (ii 0)
theorem lqB_balerref05_Bits {lf : Nat} {r : RT} (K : KT) : ∀ fu, lpB_balerref05_Bits lf r fu (fun a b c d e f g => K (.exit 2) (zp [0, 2, 3, 4, 6, 7, 9] [a, b, c, d, e,
  f, g])) = fun a b c d e f g h i j => loopK (cQ 143 (pb 18 47511) lf r) sB_balerref05_Bits fu (zp sB_balerref05_Bits [a, b, c, d, e, f, g, h, i, j]) K
  | 0 => by funext a b c d e f g h i j; kernel_rfl
  | fu + 1 => by
    have ih := lqB_balerref05_Bits (lf := lf) (r := r) K fu
    funext a b c d e f g h i j
    rw [lpB_balerref05_Bits]
    simp only [ih]
    kernel_rfl
theorem kqB_balerref05_Bits {lf : Nat} {r : RT} (K : KT) (fu : Nat) : KBB_balerref05_Bits lf r (fun a b => K (.exit 0) (zp [3, 4] [a, b])) (fun a b c d e => loopK (cQ
  143 (pb 7 23) lf r) sA_balerref05_Bits fu (zp sA_balerref05_Bits [a, b, c, d, e]) K) = (fun a b c d e f g => (iK 143 (pb 7 23) (pb 10 371) sA_balerref05_Bits fu K lf
  r) (.exit 2) (zp [0, 2, 3, 4, 6, 7, 9] [a, b, c, d, e, f, g])) := by kernel_rfl
theorem lqA_balerref05_Bits {lf : Nat} {r : RT} (K : KT) : ∀ fu, lpA_balerref05_Bits lf r fu (fun a b => K (.exit 0) (zp [3, 4] [a, b])) = fun a b c d e => loopK (cQ 143
  (pb 7 23) lf r) sA_balerref05_Bits fu (zp sA_balerref05_Bits [a, b, c, d, e]) K
  | 0 => by funext a b c d e; kernel_rfl
  | fu + 1 => by
    have ih := lqA_balerref05_Bits (lf := lf) (r := r) K fu
    funext a b c d e
    rw [lpA_balerref05_Bits]
    simp only [ih, kqB_balerref05_Bits, lqB_balerref05_Bits]
    kernel_rfl
theorem kqA_balerref05_Bits {lf : Nat} {r : RT} : kcA_balerref05_Bits lf r = (fun a b => (tK 143 (pb 6 23) lf r) (.exit 0) (zp [3, 4] [a, b])) := by kernel_rfl
theorem st_balerref05_Bits {lf : Nat} {r : RT} {a : V} : evStep Tryz.prog gt lf r 143 #[a] = inside (b_balerref05_Bits lf r a) := by 
  unfold b_balerref05_Bits
  simp only [kqA_balerref05_Bits, lqA_balerref05_Bits]
  kernel_rfl

/- balerref14_Bits -/
def lpA_balerref14_Bits (lf : Nat) (r : RT) : Nat→(V→V→V→V→V→V→V→V→V→V→M V)→V→V→V→V→V→V→V→V→V→M V
  | 0, _, _, _, _, _, _, _, _, _, _ => .fail
  | fu + 1, k, a, b, c, d, e, f, g, h, i => kls i h fun j => ifV j (kix g i fun l => kld l fun m => kcl r 177 [m] fun l => kad e l fun n => kcl r 178 [m] fun e => kb1
   230 1 e fun l => kap 230 1 f l fun o => kad i (ii 1) fun e => lpA_balerref14_Bits lf r fu k a b c d n o g h e) (k a b c d e f g h i j)
def sA_balerref14_Bits : List Nat := [0, 1, 4, 5, 6, 7, 22, 23, 24]
def lpB_balerref14_Bits (lf : Nat) (r : RT) : Nat→(V→M V)→V→V→V→V→V→V→V→V→V→V→V→V→V→M V
  | 0, _, _, _, _, _, _, _, _, _, _, _, _, _, _ => .fail
  | fu + 1, k, a, b, c, d, e, f, g, h, i, j, l, m, n => kls n m fun o => ifV o (kix l n fun p => kld p fun q => kfa 1 d fun p => kld p fun s => kqu n (ii 50) fun t =>
   kix s t fun u => kld u fun v => kix f v fun w => kld w fun x => kix x q fun y => kld y fun z => kad e z fun A => kad n (ii 1) fun e => lpB_balerref14_Bits lf r fu k a b c d A f g h i j l m e) (k e)
def sB_balerref14_Bits : List Nat := [0, 1, 4, 5, 6, 7, 22, 23, 24, 25, 38, 39, 40]
def kcB_balerref14_Bits (lf : Nat) (r : RT) : (V→M V) := fun a => outK [a]
def kcA_balerref14_Bits (lf : Nat) (r : RT) : (V→V→V→V→V→V→V→V→V→V→M V) := fun a b c d e f g h i j => kln a fun l => lpB_balerref14_Bits lf r lf (kcB_balerref14_Bits lf r) a b c d e f g h i j a l (ii 0)
def b_balerref14_Bits (lf : Nat) (r : RT) (a b : V) : M V := kcl r 175 [a, b] fun c => kal 243 z243 fun d => ksg 2 d c fun _ => kfa 1 d fun c => kld c fun e => kfa 0 d
  fun f => kld f fun g => kln g fun h => kcl r 176 [e, h] fun i => kfa 0 d fun c => kld c fun e => kln e fun f => lpA_balerref14_Bits lf r lf (kcA_balerref14_Bits lf r)
  a b (Value.string { data := #[] }) d i nS e f (ii 0)
theorem lqA_balerref14_Bits {lf : Nat} {r : RT} (K : KT) : ∀ fu, lpA_balerref14_Bits lf r fu (fun a b c d e f g h i j => K (.exit 0) (zp [0, 1, 4, 5, 6, 7, 22, 23, 24,
  25] [a, b, c, d, e, f, g, h, i, j])) = fun a b c d e f g h i => loopK (cQ 144 (pb 8 47) lf r) sA_balerref14_Bits fu (zp sA_balerref14_Bits [a, b, c, d, e, f, g, h, i]) K
  | 0 => by funext a b c d e f g h i; kernel_rfl
  | fu + 1 => by
    have ih := lqA_balerref14_Bits (lf := lf) (r := r) K fu
    funext a b c d e f g h i
    rw [lpA_balerref14_Bits]
    simp only [ih]
    kernel_rfl
theorem lqB_balerref14_Bits {lf : Nat} {r : RT} (K : KT) : ∀ fu, lpB_balerref14_Bits lf r fu (fun a => K (.exit 2) (zp [6] [a])) = fun a b c d e f g h i j l m n => loopK
  (cQ 144 (pb 9 95) lf r) sB_balerref14_Bits fu (zp sB_balerref14_Bits [a, b, c, d, e, f, g, h, i, j, l, m, n]) K
  | 0 => by funext a b c d e f g h i j l m n; kernel_rfl
  | fu + 1 => by
    have ih := lqB_balerref14_Bits (lf := lf) (r := r) K fu
    funext a b c d e f g h i j l m n
    rw [lpB_balerref14_Bits]
    simp only [ih]
    kernel_rfl
theorem kqB_balerref14_Bits {lf : Nat} {r : RT} : kcB_balerref14_Bits lf r = (fun a => (tK 144 (pb 8 95) lf r) (.exit 2) (zp [6] [a])) := by kernel_rfl
theorem kqA_balerref14_Bits {lf : Nat} {r : RT} : kcA_balerref14_Bits lf r = (fun a b c d e f g h i j => (tK 144 (pb 7 47) lf r) (.exit 0) (zp [0, 1, 4, 5, 6, 7, 22, 23,
  24, 25] [a, b, c, d, e, f, g, h, i, j])) := by 
  unfold kcA_balerref14_Bits
  simp only [kqB_balerref14_Bits, lqB_balerref14_Bits]
  kernel_rfl
theorem st_balerref14_Bits {lf : Nat} {r : RT} {a b : V} : evStep Tryz.prog gt lf r 144 #[a, b] = inside (b_balerref14_Bits lf r a b) := by 
  unfold b_balerref14_Bits
  simp only [kqA_balerref14_Bits, kqB_balerref14_Bits, lqA_balerref14_Bits, lqB_balerref14_Bits]
  kernel_rfl

/- balerref02_Step -/
def b_balerref02_Step (lf : Nat) (r : RT) (a b : V) : M V := kcv .u32 b fun c => kml c (i3 16777216) fun d => kxo a d fun e => kcl r 179 [e] fun f => outK [f]
theorem st_balerref02_Step {lf : Nat} {r : RT} {a b : V} : evStep Tryz.prog gt lf r 145 #[a, b] = inside (b_balerref02_Step lf r a b) := by kernel_rfl

/- code_Reader_Held -/
def b_code_Reader_Held (lf : Nat) (r : RT) (a : V) : M V := kpe a nP fun b => ifV b (outK [(ii 0)]) (knn a fun c => kfa 1 c fun d => (timed (kld d M.ret)).bind fun e =>
  (timed (kcl r 180 [e.1] M.ret)).bind fun f => kln f.1 fun g => knn a fun h => kfa 0 h fun i => (timed (kld i M.ret)).bind fun j => knn a fun l => kfa 4 l fun m =>
  (timed (kld m M.ret)).bind fun n => kln n.1 fun o => kml j.1 o fun p => kad g p fun q => chkT ((!(clash3 f.2 j.2) && (!(clash3 f.2 n.2) && true)) && true) (outK [q]))
theorem st_code_Reader_Held {lf : Nat} {r : RT} {a : V} : evStep Tryz.prog gt lf r 146 #[a] = inside (b_code_Reader_Held lf r a) := by kernel_rfl

/- unbwt_Inverter_Step -/
def lpA_unbwt_Inverter_Step (lf : Nat) (r : RT) : Nat→(V→V→M V)→V→V→V→V→V→M V
  | 0, _, _, _, _, _, _ => .fail
  | fu + 1, k, a, b, c, d, e => kcl r 118 [a] fun f => knt f fun g => ifV g (knn a fun h => kfa 260 h fun i => kld i fun j => ksb j d fun l => kls l b fun m => ifV m
   (kcl r 181 [a] fun f => lpA_unbwt_Inverter_Step lf r fu k a b c d e) (k a d)) (k a d)
def sA_unbwt_Inverter_Step : List Nat := [0, 1, 4, 5, 7]
def kcA_unbwt_Inverter_Step (lf : Nat) (r : RT) : (V→V→M V) := fun a b => knn a fun c => kfa 260 c fun d => kld d fun e => ksb e b fun f => outK [f]
def b_unbwt_Inverter_Step (lf : Nat) (r : RT) (a b : V) : M V := kpe a nP fun c => ifV c (outK [(ii 0)]) (knn a fun d => kfa 260 d fun e => kld e fun f =>
  lpA_unbwt_Inverter_Step lf r lf (kcA_unbwt_Inverter_Step lf r) a b (ii 0) f c)
theorem lqA_unbwt_Inverter_Step {lf : Nat} {r : RT} (K : KT) : ∀ fu, lpA_unbwt_Inverter_Step lf r fu (fun a b => K (.exit 0) (zp [0, 5] [a, b])) = fun a b c d e => loopK
  (cQ 147 (pb 6 7) lf r) sA_unbwt_Inverter_Step fu (zp sA_unbwt_Inverter_Step [a, b, c, d, e]) K
  | 0 => by funext a b c d e; kernel_rfl
  | fu + 1 => by
    have ih := lqA_unbwt_Inverter_Step (lf := lf) (r := r) K fu
    funext a b c d e
    rw [lpA_unbwt_Inverter_Step]
    simp only [ih]
    kernel_rfl
theorem kqA_unbwt_Inverter_Step {lf : Nat} {r : RT} : kcA_unbwt_Inverter_Step lf r = (fun a b => (tK 147 (pb 5 7) lf r) (.exit 0) (zp [0, 5] [a, b])) := by kernel_rfl
theorem st_unbwt_Inverter_Step {lf : Nat} {r : RT} {a b : V} : evStep Tryz.prog gt lf r 147 #[a, b] = inside (b_unbwt_Inverter_Step lf r a b) := by 
  unfold b_unbwt_Inverter_Step
  simp only [kqA_unbwt_Inverter_Step, lqA_unbwt_Inverter_Step]
  kernel_rfl

/- unbwt_Inverter_Take -/
def b_unbwt_Inverter_Take (lf : Nat) (r : RT) (a : V) : M V := kpe a nP fun b => ifV b (outK [(Value.string { data := #[] })]) (knn a fun c => kfa 259 c fun d => kld d
  fun e => kts e fun f => knn a fun c => kfa 259 c fun d => kst d nS fun _ => outK [f])
theorem st_unbwt_Inverter_Take {lf : Nat} {r : RT} {a : V} : evStep Tryz.prog gt lf r 148 #[a] = inside (b_unbwt_Inverter_Take lf r a) := by kernel_rfl

/- feed_Unpacker_Put -/
def b_feed_Unpacker_Put (lf : Nat) (r : RT) (a b : V) : M V := kpe a nP fun c => (fun d => ifV c (outK [(Value.string { data := #[] }), (ii 7)]) (kcl r 182 [a] fun e =>
  ifV e (kgr b (i1 251) fun f => ifV f (outK [(Value.string { data := #[] }), (ii 25)]) (knn a fun g => kfa 0 g fun h => kfa 0 h fun i => kld i fun j => kb1 5 1 j fun l
  => kts l fun m => kcv .i64 b fun n => kcl r 183 [m, n] fun o => kbd z168 [] fun g => knn a fun h => kfa 0 h fun i => ksg 2 i g fun _ => outK [o, (ii 0)])) (knn a fun f
  => kfa 0 f fun g => kfa 1 g fun h => kld h fun i => kgr i (ii 0) fun j => ifV j (knn a fun l => kfa 0 l fun m => kfa 0 m fun n => kld n fun o => keq o b fun p => ifV p
  (knn a fun f => kfa 0 f fun g => kfa 1 g fun h => kld h fun i => kad i (ii 1) fun j => knn a fun l => kfa 0 l fun m => kfa 1 m fun n => kst n j fun _ => d) (kbd z168
  [(0, 1, b), (1, 1, (ii 1))] fun f => knn a fun g => kfa 0 g fun h => ksg 2 h f fun _ => d)) (kbd z168 [(0, 1, b), (1, 1, (ii 1))] fun f => knn a fun g => kfa 0 g fun h
  => ksg 2 h f fun _ => d)))) (kb1 5 1 b fun d => kts d fun e => outK [e, (ii 0)])
theorem st_feed_Unpacker_Put {lf : Nat} {r : RT} {a b : V} : evStep Tryz.prog gt lf r 149 #[a, b] = inside (b_feed_Unpacker_Put lf r a b) := by kernel_rfl

/- crc_Sum_Text -/
def lpA_crc_Sum_Text (lf : Nat) (r : RT) : Nat→(M V)→V→V→V→V→M V
  | 0, _, _, _, _, _ => .fail
  | fu + 1, k, a, b, c, d => kls d c fun e => ifV e (kit b d fun f => kcl r 184 [a, f] fun g => kad d (ii 1) fun f => lpA_crc_Sum_Text lf r fu k a b c f) (k)
def sA_crc_Sum_Text : List Nat := [0, 1, 6, 7]
def kcA_crc_Sum_Text (lf : Nat) (r : RT) : (M V) := outK []
def b_crc_Sum_Text (lf : Nat) (r : RT) (a b : V) : M V := klx b fun c => lpA_crc_Sum_Text lf r lf (kcA_crc_Sum_Text lf r) a b c (ii 0)
theorem lqA_crc_Sum_Text {lf : Nat} {r : RT} (K : KT) : ∀ fu, lpA_crc_Sum_Text lf r fu (K (.exit 0) []) = fun a b c d => loopK (cQ 150 (pb 3 1) lf r) sA_crc_Sum_Text fu (zp sA_crc_Sum_Text [a, b, c, d]) K
  | 0 => by funext a b c d; kernel_rfl
  | fu + 1 => by
    have ih := lqA_crc_Sum_Text (lf := lf) (r := r) K fu
    funext a b c d
    rw [lpA_crc_Sum_Text]
    simp only [ih]
    kernel_rfl
theorem kqA_crc_Sum_Text {lf : Nat} {r : RT} : kcA_crc_Sum_Text lf r = ((tK 150 (pb 2 1) lf r) (.exit 0) []) := by kernel_rfl
theorem st_crc_Sum_Text {lf : Nat} {r : RT} {a b : V} : evStep Tryz.prog gt lf r 150 #[a, b] = inside (b_crc_Sum_Text lf r a b) := by 
  unfold b_crc_Sum_Text
  simp only [kqA_crc_Sum_Text, lqA_crc_Sum_Text]
  kernel_rfl

/- unpress_opening_end -/
def b_unpress_opening_end (lf : Nat) (r : RT) (a : V) : M V := knn a fun b => kfa 3 b fun c => kld c fun d => kcl r 118 [d] fun e => knt e fun f => ifV f (outK [(ii 0)])
  (knn a fun b => kfa 4 b fun c => kld c fun d => kcl r 185 [d] fun e => kne e (ii 0) fun g => ifV g (outK [(ii 25)]) (knn a fun b => kfa 5 b fun c => (timed (kld c
  M.ret)).bind fun d => (timed (kcl r 186 [d.1] M.ret)).bind fun e => knn a fun h => kfa 0 h fun i => kfa 2 i fun j => (timed (kld j M.ret)).bind fun l => kne e.1 l.1
  fun m => chkT ((!(clash3 e.2 l.2) && true) && true) (ifV m (outK [(ii 21)]) (outK [(ii 0)]))))
theorem st_unpress_opening_end {lf : Nat} {r : RT} {a : V} : evStep Tryz.prog gt lf r 151 #[a] = inside (b_unpress_opening_end lf r a) := by kernel_rfl

/- unbwt_New -/
def b_unbwt_New (lf : Nat) (r : RT) (a b : V) : M V := keq a (Value.string { data := #[] }) fun c => ifV c (outK [nP, (ii 1)]) (klx a fun d => kgr d (ii 900000) fun e =>
  ifV e (outK [nP, (ii 2)]) (kls b (ii 0) fun d => ifV d (outK [nP, (ii 23)]) (klx a fun f => kgq b f fun g => ifV g (outK [nP, (ii 23)]) (klx a fun d => kmk 3 [(ii 0)]
  d d fun f => kbd z176 [(0, 1, a), (257, 1, f), (258, 1, b)] fun h => kbx 176 h fun i => outK [i, (ii 0)]))))
theorem st_unbwt_New {lf : Nat} {r : RT} {a b : V} : evStep Tryz.prog gt lf r 152 #[a, b] = inside (b_unbwt_New lf r a b) := by kernel_rfl

/- feed_NewUnpacker -/
def b_feed_NewUnpacker (lf : Nat) (r : RT)  : M V := kbd z255 [] fun a => kbx 255 a fun b => outK [b]
theorem st_feed_NewUnpacker {lf : Nat} {r : RT}  : evStep Tryz.prog gt lf r 153 #[] = inside (b_feed_NewUnpacker lf r) := by kernel_rfl

/- crc_New -/
def b_crc_New (lf : Nat) (r : RT)  : M V := kcl r 187 [] fun a => kbd z260 [(0, 256, a), (256, 1, (i3 4294967295))] fun b => kbx 260 b fun c => outK [c]
theorem st_crc_New {lf : Nat} {r : RT}  : evStep Tryz.prog gt lf r 154 #[] = inside (b_crc_New lf r) := by kernel_rfl

/- unstream_Reader_letter -/
def b_unstream_Reader_letter (lf : Nat) (r : RT) (a b : V) : M V := kcl r 188 [b, (ii 8)] fun c => kex c 0 fun d => kex c 1 fun e => kne e (ii 0) fun c => ifV c (outK
  [e]) (knn a fun f => kfa 2 f fun g => kld g fun h => kls h (ii 3) fun i => ifV i (knn a fun f => kfa 2 f fun g => kld g fun h => kit (Value.string { data := #[66, 90,
  104] }) h fun j => kcv .u32 j fun l => kne d l fun m => ifV m (outK [(ii 20)]) (knn a fun f => kfa 2 f fun g => kld g fun h => kad h (ii 1) fun j => knn a fun l => kfa
  2 l fun n => kst n j fun _ => outK [(ii 0)])) (kls d (i3 49) fun f => ifV f (outK [(ii 20)]) (kgr d (i3 57) fun g => ifV g (outK [(ii 20)]) (ksb d (i3 48) fun f => kcv
  .i64 f fun h => knn a fun j => kfa 3 j fun l => kst l h fun _ => knn a fun f => kfa 2 f fun h => kst h (ii 0) fun _ => knn a fun f => kfa 8 f fun h => kst h (i3 0) fun
  _ => knn a fun f => kfa 1 f fun h => kst h (ii 1) fun _ => outK [(ii 0)]))))
theorem st_unstream_Reader_letter {lf : Nat} {r : RT} {a b : V} : evStep Tryz.prog gt lf r 155 #[a, b] = inside (b_unstream_Reader_letter lf r a b) := by kernel_rfl

/- unstream_Reader_magic -/
def b_unstream_Reader_magic (lf : Nat) (r : RT) (a b : V) : M V := kcl r 98 [b] fun c => kls c (ii 48) fun d => ifV d (outK [(ii 3)]) (kcl r 188 [b, (ii 24)] fun c => kex c 0 fun e => kex c 1 fun f => kcl r 188 [b, (ii 24)] fun c => kex c 0 fun f => kex c 1 fun g => kcv .u64 e fun c => ksl c (i6 24) fun g => kcv .u64 f fun h => kor g h fun i => keq i (i6 54156738319193) fun c => ifV c (knn a fun g => kfa 3 g fun h => kld h fun j => knn a fun l => kfa 0 l fun m => kld m fun n => kml j n fun o => kcl r 189 [o] fun p => kex p 0 fun q => kex p 1 fun s => knn a fun g => kfa 4 g fun h => kst h q fun _ => knn a fun g => kfa 1 g fun h => kst h (ii 2) fun _ => outK [s]) (keq i (i6 25779555029136) fun g => ifV g (knn a fun h => kfa 1 h fun j => kst j (ii 3) fun _ => outK [(ii 0)]) (outK [(ii 20)])))
section
variable (lf : Nat) (r : RT) (a b c d e f i : V) (k : Ex → Fr → M V)
theorem m_seq (x y : Code) (s : Fr) (G : Hint) : codeK Tryz.prog r G lf (.seq x y) s k = codeK Tryz.prog r G lf x s (seqK (fun s1 k1 => codeK Tryz.prog r G lf y s1 k1) k) := rfl
theorem m_sn (kb : Fr → (Ex → Fr → M V) → M V) (s : Fr) : seqK kb k .normal s = kb s k := rfl
theorem m_sr (kb : Fr → (Ex → Fr → M V) → M V) (s : Fr) : seqK kb k .ret s = k .ret s := rfl
theorem m_end (v : V) : endK Tryz.prog (resOf Tryz.prog 156) .ret [(4, v)] = outK [v] := by kernel_rfl
theorem m_S0 : codeAt (bodyOf Tryz.prog 156) [] = .seq (codeAt (bodyOf Tryz.prog 156) [false]) (codeAt (bodyOf Tryz.prog 156) [true]) := by kernel_rfl
theorem m_S1 : codeAt (bodyOf Tryz.prog 156) [true] = .seq (codeAt (bodyOf Tryz.prog 156) [true, false]) (codeAt (bodyOf Tryz.prog 156) [true, true]) := by kernel_rfl
theorem m_S2 : codeAt (bodyOf Tryz.prog 156) [true, true] = .seq (codeAt (bodyOf Tryz.prog 156) [true, true, false]) (codeAt (bodyOf Tryz.prog 156) [true, true, true]) := by kernel_rfl
theorem m_S3 : codeAt (bodyOf Tryz.prog 156) [true, true, true] = .seq (codeAt (bodyOf Tryz.prog 156) [true, true, true, false]) (codeAt (bodyOf Tryz.prog 156) [true, true, true, true]) := by kernel_rfl
theorem m_S4 : codeAt (bodyOf Tryz.prog 156) [true, true, true, true] = .seq (codeAt (bodyOf Tryz.prog 156) [true, true, true, true, false]) (codeAt (bodyOf Tryz.prog 156) [true, true, true, true, true]) := by kernel_rfl
theorem m_S5 : codeAt (bodyOf Tryz.prog 156) [true, true, true, true, false] = .seq (codeAt (bodyOf Tryz.prog 156) [true, true, true, true, false, false]) (codeAt (bodyOf Tryz.prog 156) [true, true, true, true, false, true]) := by kernel_rfl
theorem m_L0 : codeK Tryz.prog r (gt 156) lf (codeAt (bodyOf Tryz.prog 156) [false]) [(0, a), (1, b)] k = k .normal [(0, a), (1, b), (4, ii 0)] := by kernel_rfl
theorem m_L1 : codeK Tryz.prog r (gt 156) lf (codeAt (bodyOf Tryz.prog 156) [true, false]) [(0, a), (1, b), (4, ii 0)] k = kcl r 98 [b] fun c => kls c (ii 48) fun d => ifV d (k .ret [(4, ii 3)]) (k .normal [(0, a), (1, b), (4, ii 0), (13, d)]) := by kernel_rfl
theorem m_L2 : codeK Tryz.prog r (gt 156) lf (codeAt (bodyOf Tryz.prog 156) [true, true, false]) [(0, a), (1, b), (4, ii 0), (13, d)] k = kcl r 188 [b, (ii 24)] fun c => kex c 0 fun e => kex c 1 fun f => k .normal [(0, a), (1, b), (4, ii 0), (5, e), (13, d)] := by kernel_rfl
theorem m_L3 : codeK Tryz.prog r (gt 156) lf (codeAt (bodyOf Tryz.prog 156) [true, true, true, false]) [(0, a), (1, b), (4, ii 0), (5, e), (13, d)] k = kcl r 188 [b, (ii 24)] fun c => kex c 0 fun f => kex c 1 fun g => k .normal [(0, a), (1, b), (4, ii 0), (5, e), (7, f), (13, d)] := by kernel_rfl
theorem m_L4 : codeK Tryz.prog r (gt 156) lf (codeAt (bodyOf Tryz.prog 156) [true, true, true, true, false, false]) [(0, a), (1, b), (4, ii 0), (5, e), (7, f), (13, d)] k = kcv .u64 e fun c => ksl c (i6 24) fun g => kcv .u64 f fun h => kor g h fun i => k .normal [(0, a), (1, b), (4, ii 0), (5, e), (7, f), (13, d), (29, i)] := by kernel_rfl
theorem m_L5 : codeK Tryz.prog r (gt 156) lf (codeAt (bodyOf Tryz.prog 156) [true, true, true, true, false, true]) [(0, a), (1, b), (4, ii 0), (5, e), (7, f), (13, d), (29, i)] k = keq i (i6 54156738319193) fun c => ifV c (knn a fun g => kfa 3 g fun h => kld h fun j => knn a fun l => kfa 0 l fun m => kld m fun n => kml j n fun o => kcl r 189 [o] fun p => kex p 0 fun q => kex p 1 fun s => knn a fun g => kfa 4 g fun h => kst h q fun _ => knn a fun g => kfa 1 g fun h => kst h (ii 2) fun _ => k .ret [(4, s)]) (keq i (i6 25779555029136) fun g => ifV g (knn a fun h => kfa 1 h fun j => kst j (ii 3) fun _ => k .ret [(4, (ii 0))]) (k .normal [(0, a), (1, b), (4, ii 0), (5, e), (7, f), (13, d), (29, i), (30, c), (53, g)])) := by kernel_rfl
theorem m_L6 (c g : V) : codeK Tryz.prog r (gt 156) lf (codeAt (bodyOf Tryz.prog 156) [true, true, true, true, true]) [(0, a), (1, b), (4, ii 0), (5, e), (7, f), (13, d), (29, i), (30, c), (53, g)] k = k .ret [(4, ii 20)] := by kernel_rfl
theorem m_st : evStep Tryz.prog gt lf r 156 #[a, b] = inside (codeK Tryz.prog r (gt 156) lf (codeAt (bodyOf Tryz.prog 156) []) [(0, a), (1, b)] (endK Tryz.prog (resOf Tryz.prog 156))) := by kernel_rfl
end
theorem st_unstream_Reader_magic {lf : Nat} {r : RT} {a b : V} : evStep Tryz.prog gt lf r 156 #[a, b] = inside (b_unstream_Reader_magic lf r a b) := by
  rw [m_st]
  unfold b_unstream_Reader_magic
  simp -implicitDefEqProofs only [m_S0, m_S1, m_S2, m_S3, m_S4, m_S5, m_seq, m_L0, m_L1, m_L2, m_L3, m_L4, m_L5, m_L6, m_sn, m_sr, m_end]

/- unstream_Reader_body -/
def b_unstream_Reader_body (lf : Nat) (r : RT) (a b : V) : M V := knn a fun c => kfa 4 c fun d => kld d fun e => kcl r 190 [e, b] fun f => kne f (ii 0) fun c => ifV c
  (outK [(ii 0), f]) (knn a fun d => kfa 4 d fun e => kld e fun g => kcl r 191 [g] fun h => knt h fun i => ifV i (outK [(ii 0), f]) (knn a fun c => kfa 4 c fun d => kld
  d fun e => kcl r 192 [e] fun g => knn a fun h => kfa 5 h fun j => ksg 3 j g fun _ => knn a fun c => kfa 4 c fun d => kst d nP fun _ => knn a fun c => kfa 8 c fun d =>
  kld d fun e => knn a fun g => kfa 5 g fun h => kfa 2 h fun j => kld j fun l => kcl r 127 [e, l] fun m => knn a fun n => kfa 8 n fun o => kst o m fun _ => knn a fun c
  => kfa 1 c fun d => kst d (ii 1) fun _ => outK [(ii 1), (ii 0)]))
theorem st_unstream_Reader_body {lf : Nat} {r : RT} {a b : V} : evStep Tryz.prog gt lf r 157 #[a, b] = inside (b_unstream_Reader_body lf r a b) := by kernel_rfl

/- unstream_Reader_sum -/
def b_unstream_Reader_sum (lf : Nat) (r : RT) (a b : V) : M V := kcl r 188 [b, (ii 32)] fun c => kex c 0 fun d => kex c 1 fun e => kne e (ii 0) fun c => ifV c (outK [(ii
  0), e]) (knn a fun f => kfa 8 f fun g => kld g fun h => kne d h fun i => ifV i (outK [(ii 0), (ii 21)]) (kcl r 193 [b] fun f => knn a fun f => kfa 1 f fun g => kst g
  (ii 0) fun _ => knn a fun f => kfa 9 f fun g => kst g bT fun _ => outK [(ii 2), (ii 0)]))
theorem st_unstream_Reader_sum {lf : Nat} {r : RT} {a b : V} : evStep Tryz.prog gt lf r 158 #[a, b] = inside (b_unstream_Reader_sum lf r a b) := by kernel_rfl

/- unbwt_Of -/
def b_unbwt_Of (lf : Nat) (r : RT) (a b : V) : M V := kcl r 152 [a, b] fun c => kex c 0 fun d => kex c 1 fun e => kne e (ii 0) fun c => ifV c (outK [(Value.string { data
  := #[] }), e]) (klx a fun f => kml (ii 3) f fun g => kcl r 147 [d, g] fun h => kcl r 148 [d] fun f => outK [f, (ii 0)])
theorem st_unbwt_Of {lf : Nat} {r : RT} {a b : V} : evStep Tryz.prog gt lf r 159 #[a, b] = inside (b_unbwt_Of lf r a b) := by kernel_rfl

/- rle_Decode -/
def b_rle_Decode (lf : Nat) (r : RT) (a : V) : M V := kal 73 z73 fun b => kcl r 194 [a, (Value.func (Go.Fn.func 195) #[] #[b])] fun c => kne c (ii 0) fun d => ifV d
  (outK [(Value.string { data := #[] }), c]) (kld b fun e => kts e fun f => outK [f, (ii 0)])
theorem st_rle_Decode {lf : Nat} {r : RT} {a : V} : evStep Tryz.prog gt lf r 160 #[a] = inside (b_rle_Decode lf r a) := by kernel_rfl

/- crc_Of -/
def b_crc_Of (lf : Nat) (r : RT) (a : V) : M V := kcl r 154 [] fun b => kcl r 150 [b, a] fun c => kcl r 186 [b] fun c => outK [c]
theorem st_crc_Of {lf : Nat} {r : RT} {a : V} : evStep Tryz.prog gt lf r 161 #[a] = inside (b_crc_Of lf r a) := by kernel_rfl

/- balerref13_Read -/
def lpA_balerref13_Read (lf : Nat) (r : RT) : Nat→((V→V→V→V→M V) × (V→M V))→V→V→V→V→V→V→V→V→V→M V
  | 0, _, _, _, _, _, _, _, _, _, _ => .fail
  | fu + 1, k, a, b, c, d, e, f, g, h, i => kln f fun j => kls j d fun l => ifV l (ksx a (some g) none fun j => kcl r 196 [j] fun m => kgq m c fun j => ifV j (kad g c
   fun n => kbd z224 [(3, 1, n), (4, 1, (ii 25))] fun o => ksg 5 b o fun _ => k.2 b) (kad g m fun n => klx a fun o => keq n o fun p => ifV p (kbd z224 [(4, 1, (ii 3))]
   fun n => ksg 5 b n fun _ => k.2 b) (kit e m fun n => kcv .i64 n fun o => ksb o (ii 48) fun q => kb1 3 1 q fun s => kap 3 1 f s fun t => kcl r 167 [e, m] fun f => kad
   g m fun e => kad e (ii 1) fun n => lpA_balerref13_Read lf r fu k a b c d f t n h i))) (k.1 b c f g)
def sA_balerref13_Read : List Nat := [0, 2, 3, 4, 5, 6, 7, 11, 30]
def kcA_balerref13_Read (lf : Nat) (r : RT) : (V→V→V→V→M V) × (V→M V) := (fun a b c d => kbd z224 [(0, 1, c), (1, 1, b), (2, 1, d), (3, 1, d)] fun e => ksg 5 a e fun _
  => klg 5 a fun b => outK [b], fun a => klg 5 a fun b => outK [b])
def b_balerref13_Read (lf : Nat) (r : RT) (a : V) : M V := kal 224 z224 fun b => klx a fun c => kls c (ii 18) fun d => ifV d (kbd z224 [(4, 1, (ii 3))] fun c => ksg 5 b
  c fun _ => klg 5 b fun a => outK [a]) (ksx a none (some (ii 3)) fun c => kcl r 63 [c] fun e => kcv .i64 e fun f => ksx a (some (ii 3)) (some (ii 18)) fun c => kcl r 63
  [c] fun e => kcv .i64 e fun g => kls f (ii 2) fun c => ifV c (kbd z224 [(3, 1, (ii 18)), (4, 1, (ii 25))] fun c => ksg 5 b c fun _ => klg 5 b fun a => outK [a]) (kgr f
  (ii 6) fun e => ifV e (kbd z224 [(3, 1, (ii 18)), (4, 1, (ii 25))] fun c => ksg 5 b c fun _ => klg 5 b fun a => outK [a]) (keq g (ii 0) fun h => ifV h (kbd z224 [(3,
  1, (ii 18)), (4, 1, (ii 25))] fun c => ksg 5 b c fun _ => klg 5 b fun a => outK [a]) (lpA_balerref13_Read lf r lf (kcA_balerref13_Read lf r) a b f g (Value.string {
  data := #[48, 49, 50, 51, 52, 53] }) nS (ii 18) d h))))
theorem lqA_balerref13_Read {lf : Nat} {r : RT} (K : KT) : ∀ fu, lpA_balerref13_Read lf r fu ((fun a b c d => K (.exit 0) (zp [2, 3, 6, 7] [a, b, c, d]), fun a => K .ret
  (zp [2] [a]))) = fun a b c d e f g h i => loopK (cQ 162 (pb 11 255) lf r) sA_balerref13_Read fu (zp sA_balerref13_Read [a, b, c, d, e, f, g, h, i]) K
  | 0 => by funext a b c d e f g h i; kernel_rfl
  | fu + 1 => by
    have ih := lqA_balerref13_Read (lf := lf) (r := r) K fu
    funext a b c d e f g h i
    rw [lpA_balerref13_Read]
    simp only [ih]
    kernel_rfl
theorem kqA_balerref13_Read {lf : Nat} {r : RT} : kcA_balerref13_Read lf r = ((fun a b c d => (tK 162 (pb 10 255) lf r) (.exit 0) (zp [2, 3, 6, 7] [a, b, c, d]), fun a
  => (tK 162 (pb 10 255) lf r) .ret (zp [2] [a]))) := by kernel_rfl
theorem st_balerref13_Read {lf : Nat} {r : RT} {a : V} : evStep Tryz.prog gt lf r 162 #[a] = inside (b_balerref13_Read lf r a) := by 
  unfold b_balerref13_Read
  simp only [kqA_balerref13_Read, lqA_balerref13_Read]
  kernel_rfl

/- balerref14_readTables -/
def lpA_balerref14_readTables (lf : Nat) (r : RT) : Nat→((V→V→M V) × (V→M V))→V→V→V→V→V→V→V→M V
  | 0, _, _, _, _, _, _, _, _ => .fail
  | fu + 1, k, a, b, c, d, e, f, g => kls g f fun h => ifV h (kfa 1 e fun i => kld i fun j => ksx a (some j) none fun l => kcl r 197 [l, c] fun m => kal 269 z269 fun n
   => ksg 3 n m fun _ => kfa 2 n fun i => kld i fun j => kne j (ii 0) fun l => ifV l (kfa 0 e fun i => kld i fun j => kfa 2 n fun m => kld m fun o => kbd z228 [(0, 1,
   j), (2, 1, o)] fun p => ksg 3 d p fun _ => k.2 d) (kfa 1 e fun i => kld i fun j => kfa 1 n fun m => kld m fun o => kad j o fun p => kfa 1 e fun q => kst q p fun _ =>
   kfa 0 n fun i => kld i fun j => kcl r 198 [j] fun m => knt m fun o => ifV o (kfa 0 e fun i => kld i fun j => kbd z228 [(0, 1, j), (2, 1, (ii 22))] fun m => ksg 3 d m
   fun _ => k.2 d) (kfa 0 e fun i => (timed (kld i M.ret)).bind fun j => kfa 0 n fun m => (timed (kld m M.ret)).bind fun p => (timed (kcl r 178 [p.1] M.ret)).bind fun q
   => (timed (kb1 230 1 q.1 M.ret)).bind fun s => (timed (kap 230 1 j.1 s.1 M.ret)).bind fun t => kfa 0 e fun u => (timed (kst u t.1 M.ret)).bind fun v => chkT
   ((!(clash3 j.2 q.2) && true) && true) (kad g (ii 1) fun i => lpA_balerref14_readTables lf r fu k a b c d e f i)))) (k.1 d e)
def sA_balerref14_readTables : List Nat := [0, 1, 2, 6, 7, 10, 11]
def kcA_balerref14_readTables (lf : Nat) (r : RT) : (V→V→M V) × (V→M V) := (fun a b => klg 3 b fun c => ksg 3 a c fun _ => klg 3 a fun b => outK [b], fun a => klg 3 a fun b => outK [b])
def b_balerref14_readTables (lf : Nat) (r : RT) (a b c : V) : M V := kal 228 z228 fun d => kbd z228 [] fun e => kal 228 z228 fun f => ksg 3 f e fun _ =>
  lpA_balerref14_readTables lf r lf (kcA_balerref14_readTables lf r) a b c d f b (ii 0)
theorem lqA_balerref14_readTables {lf : Nat} {r : RT} (K : KT) : ∀ fu, lpA_balerref14_readTables lf r fu ((fun a b => K (.exit 0) (zp [6, 7] [a, b]), fun a => K .ret (zp
  [6] [a]))) = fun a b c d e f g => loopK (cQ 163 (pb 6 11) lf r) sA_balerref14_readTables fu (zp sA_balerref14_readTables [a, b, c, d, e, f, g]) K
  | 0 => by funext a b c d e f g; kernel_rfl
  | fu + 1 => by
    have ih := lqA_balerref14_readTables (lf := lf) (r := r) K fu
    funext a b c d e f g
    rw [lpA_balerref14_readTables]
    simp only [ih]
    kernel_rfl
theorem kqA_balerref14_readTables {lf : Nat} {r : RT} : kcA_balerref14_readTables lf r = ((fun a b => (tK 163 (pb 5 11) lf r) (.exit 0) (zp [6, 7] [a, b]), fun a => (tK
  163 (pb 5 11) lf r) .ret (zp [6] [a]))) := by kernel_rfl
theorem st_balerref14_readTables {lf : Nat} {r : RT} {a b c : V} : evStep Tryz.prog gt lf r 163 #[a, b, c] = inside (b_balerref14_readTables lf r a b c) := by 
  unfold b_balerref14_readTables
  simp only [kqA_balerref14_readTables, lqA_balerref14_readTables]
  kernel_rfl

/- balerref10_Get -/
def lpA_balerref10_Get (lf : Nat) (r : RT) : Nat→((M V) × (V→M V))→V→V→V→V→V→V→M V
  | 0, _, _, _, _, _, _, _ => .fail
  | fu + 1, k, a, b, c, d, e, f => kls f e fun g => ifV g (kix d f fun h => kld h fun i => kcl r 199 [b, i] fun h => ifV h (k.2 f) (kad f (ii 1) fun j => lpA_balerref10_Get lf r fu k a b c d e j)) (k.1)
def sA_balerref10_Get : List Nat := [0, 1, 4, 7, 8, 9]
def kcA_balerref10_Get (lf : Nat) (r : RT) : (M V) × (V→M V) := (outK [(ii (-1))], fun a => outK [a])
def b_balerref10_Get (lf : Nat) (r : RT) (a b : V) : M V := kln a fun c => lpA_balerref10_Get lf r lf (kcA_balerref10_Get lf r) a b (ii 0) a c (ii 0)
theorem lqA_balerref10_Get {lf : Nat} {r : RT} (K : KT) : ∀ fu, lpA_balerref10_Get lf r fu ((K (.exit 0) [], fun a => K .ret (zp [4] [a]))) = fun a b c d e f => loopK
  (cQ 164 (pb 5 5) lf r) sA_balerref10_Get fu (zp sA_balerref10_Get [a, b, c, d, e, f]) K
  | 0 => by funext a b c d e f; kernel_rfl
  | fu + 1 => by
    have ih := lqA_balerref10_Get (lf := lf) (r := r) K fu
    funext a b c d e f
    rw [lpA_balerref10_Get]
    simp only [ih]
    kernel_rfl
theorem kqA_balerref10_Get {lf : Nat} {r : RT} : kcA_balerref10_Get lf r = (((tK 164 (pb 4 5) lf r) (.exit 0) [], fun a => (tK 164 (pb 4 5) lf r) .ret (zp [4] [a]))) := by kernel_rfl
theorem st_balerref10_Get {lf : Nat} {r : RT} {a b : V} : evStep Tryz.prog gt lf r 164 #[a, b] = inside (b_balerref10_Get lf r a b) := by 
  unfold b_balerref10_Get
  simp only [kqA_balerref10_Get, lqA_balerref10_Get]
  kernel_rfl

/- balerref07_Reader_Put -/
def b_balerref07_Reader_Put (lf : Nat) (r : RT) (a b : V) : M V := kbx 233 a fun c => kal 235 z235 fun d => kfa 4 c fun e => kld e fun f => ifV f (klg 5 c fun e => kbd
  z235 [(0, 5, e), (7, 1, (ii 7))] fun g => ksg 8 d g fun _ => klg 8 d fun a => outK [a]) (kls b (ii 0) fun e => ifV e (klg 5 c fun e => kbd z235 [(0, 5, e), (7, 1, (ii
  25))] fun g => ksg 8 d g fun _ => klg 8 d fun a => outK [a]) (kfa 0 c fun g => kld g fun h => kad h (ii 1) fun i => kgr b i fun j => ifV j (klg 5 c fun e => kbd z235
  [(0, 5, e), (7, 1, (ii 25))] fun g => ksg 8 d g fun _ => klg 8 d fun a => outK [a]) (klg 5 c fun e => kal 233 z233 fun g => ksg 5 g e fun _ => kls b (ii 2) fun e =>
  ifV e (kfa 3 c fun h => kld h fun i => kap 3 1 nS i fun l => kb1 3 1 b fun h => kap 3 1 l h fun i => kfa 3 g fun h => kst h i fun _ => (timed (klg 5 g M.ret)).bind fun
  h => (timed (kcl r 200 [h.1] M.ret)).bind fun l => kfa 1 c fun m => (timed (kld m M.ret)).bind fun n => kgr l.1 n.1 fun o => chkT ((!(clash3 l.2 n.2) && true) && true)
  (ifV o (klg 5 c fun h => kbd z235 [(0, 5, h), (7, 1, (ii 2))] fun l => ksg 8 d l fun _ => klg 8 d fun a => outK [a]) (klg 5 g fun h => kbd z235 [(0, 5, h), (6, 1, (ii
  (-1)))] fun l => ksg 8 d l fun _ => klg 8 d fun a => outK [a]))) (kfa 3 c fun h => kld h fun i => kcl r 201 [i] fun l => kfa 2 c fun h => kld h fun i => kad i l fun m
  => kfa 2 g fun n => kst n m fun _ => kfa 3 g fun h => kst h nS fun _ => kfa 0 c fun h => kld h fun i => kad i (ii 1) fun m => keq b m fun n => ifV n (kfa 4 g fun h =>
  kst h bT fun _ => klg 5 g fun h => kbd z235 [(0, 5, h), (5, 1, l), (6, 1, (ii (-1)))] fun i => ksg 8 d i fun _ => klg 8 d fun a => outK [a]) (kfa 2 g fun h => kld h
  fun i => kad i (ii 1) fun m => kfa 2 g fun o => kst o m fun _ => kfa 2 g fun h => kld h fun i => kfa 1 c fun m => kld m fun o => kgr i o fun p => ifV p (klg 5 c fun h
  => kbd z235 [(0, 5, h), (7, 1, (ii 2))] fun i => ksg 8 d i fun _ => klg 8 d fun a => outK [a]) (klg 5 g fun h => ksb b (ii 1) fun i => kbd z235 [(0, 5, h), (5, 1, l),
  (6, 1, i)] fun m => ksg 8 d m fun _ => klg 8 d fun a => outK [a]))))))
theorem st_balerref07_Reader_Put {lf : Nat} {r : RT} {a b : V} : evStep Tryz.prog gt lf r 165 #[a, b] = inside (b_balerref07_Reader_Put lf r a b) := by kernel_rfl

/- balerref05_Is -/
def b_balerref05_Is (lf : Nat) (r : RT) (a : V) : M V := klx a fun b => kgr b (ii 0) fun c => ifV c (kcl r 140 [a] fun d => keq d a fun e => outK [e]) (outK [bF])
theorem st_balerref05_Is {lf : Nat} {r : RT} {a : V} : evStep Tryz.prog gt lf r 166 #[a] = inside (b_balerref05_Is lf r a) := by kernel_rfl

/- balerref06_Touch -/
def b_balerref06_Touch (lf : Nat) (r : RT) (a b : V) : M V := kad b (ii 1) fun c => ksx a (some b) (some c) fun d => ksx a none (some b) fun e => kad d e fun f => kad b
  (ii 1) fun g => ksx a (some g) none fun h => kad f h fun i => outK [i]
theorem st_balerref06_Touch {lf : Nat} {r : RT} {a b : V} : evStep Tryz.prog gt lf r 167 #[a, b] = inside (b_balerref06_Touch lf r a b) := by kernel_rfl

/- balerref03_four -/
def b_balerref03_four (lf : Nat) (r : RT) (a : V) : M V := klx a fun b => kgq b (ii 4) fun c => ifV c (kit a (ii 0) fun d => kit a (ii 1) fun e => keq d e fun f => ifV f
  (kit a (ii 1) fun g => kit a (ii 2) fun h => keq g h fun i => ifV i (kit a (ii 2) fun j => kit a (ii 3) fun l => keq j l fun m => outK [m]) (outK [bF])) (outK [bF])) (outK [bF])
theorem st_balerref03_four {lf : Nat} {r : RT} {a : V} : evStep Tryz.prog gt lf r 168 #[a] = inside (b_balerref03_four lf r a) := by kernel_rfl

/- balerref18_Links -/
def lpB_balerref18_Links (lf : Nat) (r : RT) : Nat→(V→V→V→V→M V)→V→V→V→V→V→V→V→V→M V
  | 0, _, _, _, _, _, _, _, _, _ => .fail
  | fu + 1, k, a, b, c, d, e, f, g, h => kls h g fun i => ifV i (kit a h fun j => kcv .i64 j fun l => keq l d fun m => ifV m (kb1 3 1 h fun j => kap 3 1 c j fun l => kad
   h (ii 1) fun c => lpB_balerref18_Links lf r fu k a b l d e f g c) (kad h (ii 1) fun j => lpB_balerref18_Links lf r fu k a b c d e f g j)) (k a b c e)
def sB_balerref18_Links : List Nat := [0, 2, 3, 4, 6, 7, 10, 11]
def KBB_balerref18_Links (lf : Nat) (r : RT) (k : (V→M V)) (again : V→V→V→V→M V) : (V→V→V→V→M V) := fun a b c d => kad d (ii 1) fun e => again a b c e
def lpA_balerref18_Links (lf : Nat) (r : RT) : Nat→(V→M V)→V→V→V→V→M V
  | 0, _, _, _, _, _ => .fail
  | fu + 1, k, a, b, c, d => kls d (ii 256) fun e => ifV e (klx a fun f => lpB_balerref18_Links lf r lf (KBB_balerref18_Links lf r k (lpA_balerref18_Links lf r fu k)) a b c d d e f (ii 0)) (k c)
def sA_balerref18_Links : List Nat := [0, 2, 3, 6]
abbrev kcB_balerref18_Links (lf : Nat) (r : RT) (fu : Nat) (k : (V→M V)) : (V→V→V→V→M V) := KBB_balerref18_Links lf r k (lpA_balerref18_Links lf r fu k)
def kcA_balerref18_Links (lf : Nat) (r : RT) : (V→M V) := fun a => outK [a]
def b_balerref18_Links (lf : Nat) (r : RT) (a : V) : M V := lpA_balerref18_Links lf r lf (kcA_balerref18_Links lf r) a nS nS (ii 0)
theorem lqB_balerref18_Links {lf : Nat} {r : RT} (K : KT) : ∀ fu, lpB_balerref18_Links lf r fu (fun a b c d => K (.exit 2) (zp [0, 2, 3, 6] [a, b, c, d])) = fun a b c d
  e f g h => loopK (cQ 169 (pb 14 3275) lf r) sB_balerref18_Links fu (zp sB_balerref18_Links [a, b, c, d, e, f, g, h]) K
  | 0 => by funext a b c d e f g h; kernel_rfl
  | fu + 1 => by
    have ih := lqB_balerref18_Links (lf := lf) (r := r) K fu
    funext a b c d e f g h
    rw [lpB_balerref18_Links]
    simp only [ih]
    kernel_rfl
theorem kqB_balerref18_Links {lf : Nat} {r : RT} (K : KT) (fu : Nat) : KBB_balerref18_Links lf r (fun a => K (.exit 0) (zp [3] [a])) (fun a b c d => loopK (cQ 169 (pb 6
  11) lf r) sA_balerref18_Links fu (zp sA_balerref18_Links [a, b, c, d]) K) = (fun a b c d => (iK 169 (pb 6 11) (pb 7 51) sA_balerref18_Links fu K lf r) (.exit 2) (zp
  [0, 2, 3, 6] [a, b, c, d])) := by kernel_rfl
theorem lqA_balerref18_Links {lf : Nat} {r : RT} (K : KT) : ∀ fu, lpA_balerref18_Links lf r fu (fun a => K (.exit 0) (zp [3] [a])) = fun a b c d => loopK (cQ 169 (pb 6
  11) lf r) sA_balerref18_Links fu (zp sA_balerref18_Links [a, b, c, d]) K
  | 0 => by funext a b c d; kernel_rfl
  | fu + 1 => by
    have ih := lqA_balerref18_Links (lf := lf) (r := r) K fu
    funext a b c d
    rw [lpA_balerref18_Links]
    simp only [ih, kqB_balerref18_Links, lqB_balerref18_Links]
    kernel_rfl
theorem kqA_balerref18_Links {lf : Nat} {r : RT} : kcA_balerref18_Links lf r = (fun a => (tK 169 (pb 5 11) lf r) (.exit 0) (zp [3] [a])) := by kernel_rfl
theorem st_balerref18_Links {lf : Nat} {r : RT} {a : V} : evStep Tryz.prog gt lf r 169 #[a] = inside (b_balerref18_Links lf r a) := by 
  unfold b_balerref18_Links
  simp only [kqA_balerref18_Links, lqA_balerref18_Links]
  kernel_rfl

/- balerref15_Rotation -/
def b_balerref15_Rotation (lf : Nat) (r : RT) (a b : V) : M V := ksx a (some b) none fun c => ksx a none (some b) fun d => kad c d fun e => outK [e]
theorem st_balerref15_Rotation {lf : Nat} {r : RT} {a b : V} : evStep Tryz.prog gt lf r 170 #[a, b] = inside (b_balerref15_Rotation lf r a b) := by kernel_rfl

/- balerref15_Ahead -/
def b_balerref15_Ahead (lf : Nat) (r : RT) (a b c : V) : M V := kcl r 170 [a, b] fun d => kcl r 170 [a, c] fun e => kls d e fun f => ifV f (outK [bT]) (keq d e fun g =>
  ifV g (kls b c fun h => outK [h]) (outK [bF]))
theorem st_balerref15_Ahead {lf : Nat} {r : RT} {a b c : V} : evStep Tryz.prog gt lf r 171 #[a, b, c] = inside (b_balerref15_Ahead lf r a b c) := by kernel_rfl

/- balerref05_There -/
def lpA_balerref05_There (lf : Nat) (r : RT) : Nat→((M V) × (V→M V))→V→V→V→V→M V
  | 0, _, _, _, _, _ => .fail
  | fu + 1, k, a, b, c, d => klx a fun e => kls d e fun f => ifV f (kit a d fun e => kcv .i64 e fun g => keq g b fun h => ifV h (k.2 bT) (kad d (ii 1) fun e => lpA_balerref05_There lf r fu k a b c e)) (k.1)
def sA_balerref05_There : List Nat := [0, 1, 4, 5]
def kcA_balerref05_There (lf : Nat) (r : RT) : (M V) × (V→M V) := (outK [bF], fun a => outK [a])
def b_balerref05_There (lf : Nat) (r : RT) (a b : V) : M V := lpA_balerref05_There lf r lf (kcA_balerref05_There lf r) a b bF (ii 0)
theorem lqA_balerref05_There {lf : Nat} {r : RT} (K : KT) : ∀ fu, lpA_balerref05_There lf r fu ((K (.exit 0) [], fun a => K .ret (zp [4] [a]))) = fun a b c d => loopK
  (cQ 172 (pb 5 5) lf r) sA_balerref05_There fu (zp sA_balerref05_There [a, b, c, d]) K
  | 0 => by funext a b c d; kernel_rfl
  | fu + 1 => by
    have ih := lqA_balerref05_There (lf := lf) (r := r) K fu
    funext a b c d
    rw [lpA_balerref05_There]
    simp only [ih]
    kernel_rfl
theorem kqA_balerref05_There {lf : Nat} {r : RT} : kcA_balerref05_There lf r = (((tK 172 (pb 4 5) lf r) (.exit 0) [], fun a => (tK 172 (pb 4 5) lf r) .ret (zp [4] [a]))) := by kernel_rfl
theorem st_balerref05_There {lf : Nat} {r : RT} {a b : V} : evStep Tryz.prog gt lf r 172 #[a, b] = inside (b_balerref05_There lf r a b) := by 
  unfold b_balerref05_There
  simp only [kqA_balerref05_There, lqA_balerref05_There]
  kernel_rfl

/- balerref06_Place -/
def lpA_balerref06_Place (lf : Nat) (r : RT) : Nat→((M V) × (V→M V))→V→V→V→V→M V
  | 0, _, _, _, _, _ => .fail
  | fu + 1, k, a, b, c, d => klx a fun e => kls d e fun f => ifV f (kit a d fun e => keq e b fun g => ifV g (k.2 d) (kad d (ii 1) fun e => lpA_balerref06_Place lf r fu k a b c e)) (k.1)
def sA_balerref06_Place : List Nat := [0, 1, 4, 5]
def kcA_balerref06_Place (lf : Nat) (r : RT) : (M V) × (V→M V) := (outK [(ii (-1))], fun a => outK [a])
def b_balerref06_Place (lf : Nat) (r : RT) (a b : V) : M V := lpA_balerref06_Place lf r lf (kcA_balerref06_Place lf r) a b (ii 0) (ii 0)
theorem lqA_balerref06_Place {lf : Nat} {r : RT} (K : KT) : ∀ fu, lpA_balerref06_Place lf r fu ((K (.exit 0) [], fun a => K .ret (zp [4] [a]))) = fun a b c d => loopK
  (cQ 173 (pb 5 5) lf r) sA_balerref06_Place fu (zp sA_balerref06_Place [a, b, c, d]) K
  | 0 => by funext a b c d; kernel_rfl
  | fu + 1 => by
    have ih := lqA_balerref06_Place (lf := lf) (r := r) K fu
    funext a b c d
    rw [lpA_balerref06_Place]
    simp only [ih]
    kernel_rfl
theorem kqA_balerref06_Place {lf : Nat} {r : RT} : kcA_balerref06_Place lf r = (((tK 173 (pb 4 5) lf r) (.exit 0) [], fun a => (tK 173 (pb 4 5) lf r) .ret (zp [4] [a]))) := by kernel_rfl
theorem st_balerref06_Place {lf : Nat} {r : RT} {a b : V} : evStep Tryz.prog gt lf r 173 #[a, b] = inside (b_balerref06_Place lf r a b) := by 
  unfold b_balerref06_Place
  simp only [kqA_balerref06_Place, lqA_balerref06_Place]
  kernel_rfl

/- balerref07_Row -/
def b_balerref07_Row (lf : Nat) (r : RT) (a : V) : M V := keq a (ii 0) fun b => ifV b (outK [nS]) (krm a (ii 2) fun c => keq c (ii 1) fun d => ifV d (kb1 3 1 (ii 0) fun
  c => kap 3 1 nS c fun e => ksb a (ii 1) fun c => kqu c (ii 2) fun f => kcl r 174 [f] fun g => kap 3 1 e g fun h => outK [h]) (kb1 3 1 (ii 1) fun c => kap 3 1 nS c fun
  e => ksb a (ii 2) fun c => kqu c (ii 2) fun f => kcl r 174 [f] fun g => kap 3 1 e g fun h => outK [h]))
theorem st_balerref07_Row {lf : Nat} {r : RT} {a : V} : evStep Tryz.prog gt lf r 174 #[a] = inside (b_balerref07_Row lf r a) := by kernel_rfl

/- balerref12_Of -/
def lpB_balerref12_Of (lf : Nat) (r : RT) : Nat→(V→V→V→V→V→V→V→V→V→V→V→V→M V)→V→V→V→V→V→V→V→V→V→V→V→M V
  | 0, _, _, _, _, _, _, _, _, _, _, _, _ => .fail
  | fu + 1, k, a, b, c, d, e, f, g, h, i, j, l => kls l j fun m => ifV m (kix i l fun n => kld n fun o => kfa 0 d fun n => kld n fun p => kcl r 205 [o, p] fun q => kb1 3
   1 q fun s => kap 3 1 f s fun t => kad l (ii 1) fun f => lpB_balerref12_Of lf r fu k a b c d e t g h i j f) (k a b c d e f g h i j l m)
def sB_balerref12_Of : List Nat := [0, 1, 4, 5, 6, 7, 24, 25, 26, 27, 28]
def lpD_balerref12_Of (lf : Nat) (r : RT) : Nat→(V→V→V→V→V→V→V→V→V→V→V→V→V→V→V→V→M V)→V→V→V→V→V→V→V→V→V→V→V→V→V→V→V→V→V→V→V→V→V→M V
  | 0, _, _, _, _, _, _, _, _, _, _, _, _, _, _, _, _, _, _, _, _, _, _ => .fail
  | fu + 1, k, a, b, c, d, e, f, g, h, i, j, l, m, n, o, p, q, s, t, u, v, w => kls w v fun x => ifV x (kix u w fun y => kld y fun z => kix f w fun y => kld y fun A =>
   keq A h fun B => ifV B (kap 3 1 i z fun y => kad w (ii 1) fun i => lpD_balerref12_Of lf r fu k a b c d e f g h y j l m n o p q s t u v i) (kad w (ii 1) fun y =>
   lpD_balerref12_Of lf r fu k a b c d e f g h i j l m n o p q s t u v y)) (k a b c d e f g i j l m n o p q s)
def sD_balerref12_Of : List Nat := [0, 1, 4, 5, 6, 7, 10, 11, 12, 24, 25, 26, 27, 28, 29, 42, 43, 44, 46, 47, 48]
def KBD_balerref12_Of (lf : Nat) (r : RT) (k : (V→V→V→V→V→V→V→V→M V)) (again : V→V→V→V→V→V→V→V→V→V→V→V→V→V→V→M V) : (V→V→V→V→V→V→V→V→V→V→V→V→V→V→V→V→M V) := fun a b c d
  e f g h i j l m n o p q => kcl r 203 [h, b] fun s => kcl r 206 [s] fun t => kb1 115 1 t fun u => kap 115 1 g u fun v => kad q (ii 1) fun g => again a b c d e f v i j l m n o p g
def lpC_balerref12_Of (lf : Nat) (r : RT) : Nat→(V→V→V→V→V→V→V→V→M V)→V→V→V→V→V→V→V→V→V→V→V→V→V→V→V→M V
  | 0, _, _, _, _, _, _, _, _, _, _, _, _, _, _, _, _ => .fail
  | fu + 1, k, a, b, c, d, e, f, g, h, i, j, l, m, n, o, p => kls p o fun q => ifV q (kln e fun s => lpD_balerref12_Of lf r lf (KBD_balerref12_Of lf r k
   (lpC_balerref12_Of lf r fu k)) a b c d e f g p nS h i j l m n o p q e s (ii 0)) (k a b c d e f g h)
def sC_balerref12_Of : List Nat := [0, 1, 4, 5, 6, 7, 10, 24, 25, 26, 27, 28, 29, 42, 43]
abbrev kcD_balerref12_Of (lf : Nat) (r : RT) (fu : Nat) (k : (V→V→V→V→V→V→V→V→M V)) : (V→V→V→V→V→V→V→V→V→V→V→V→V→V→V→V→M V) := KBD_balerref12_Of lf r k (lpC_balerref12_Of lf r fu k)
def KBC_balerref12_Of (lf : Nat) (r : RT) (k : (V→V→M V)) (again : V→V→V→V→V→V→M V) : (V→V→V→V→V→V→V→V→M V) := fun a b c d e f g h => kbd z243 [(0, 1, g), (1, 1, f)] fun
  i => ksg 2 d i fun _ => kad h (ii 1) fun i => again a b c d e i
def KBB_balerref12_Of (lf : Nat) (r : RT) (k : (V→V→M V)) (again : V→V→V→V→V→V→M V) : (V→V→V→V→V→V→V→V→V→V→V→V→M V) := fun a b c d e f g h i j l m => kfa 0 d fun n =>
  kld n fun o => kln o fun p => lpC_balerref12_Of lf r lf (KBC_balerref12_Of lf r k again) a b c d e f nS g h i j l m p (ii 0)
def lpA_balerref12_Of (lf : Nat) (r : RT) : Nat→(V→V→M V)→V→V→V→V→V→V→M V
  | 0, _, _, _, _, _, _, _ => .fail
  | fu + 1, k, a, b, c, d, e, f => kls f (ii 4) fun g => ifV g (kln e fun h => lpB_balerref12_Of lf r lf (KBB_balerref12_Of lf r k (lpA_balerref12_Of lf r fu k)) a b c d e nS f g e h (ii 0)) (k c d)
def sA_balerref12_Of : List Nat := [0, 1, 4, 5, 6, 24]
abbrev kcB_balerref12_Of (lf : Nat) (r : RT) (fu : Nat) (k : (V→V→M V)) : (V→V→V→V→V→V→V→V→V→V→V→V→M V) := KBB_balerref12_Of lf r k (lpA_balerref12_Of lf r fu k)
abbrev kcC_balerref12_Of (lf : Nat) (r : RT) (fu : Nat) (k : (V→V→M V)) : (V→V→V→V→V→V→V→V→M V) := KBC_balerref12_Of lf r k (lpA_balerref12_Of lf r fu k)
def kcA_balerref12_Of (lf : Nat) (r : RT) : (V→V→M V) := fun a b => klg 2 b fun c => ksg 2 a c fun _ => klg 2 a fun b => outK [b]
def b_balerref12_Of (lf : Nat) (r : RT) (a b : V) : M V := kal 243 z243 fun c => kcl r 203 [a, b] fun d => kln a fun e => kcl r 202 [d, e] fun f => kbd z243 [(0, 1, f)]
  fun g => kal 243 z243 fun h => ksg 2 h g fun _ => kcl r 204 [a] fun d => lpA_balerref12_Of lf r lf (kcA_balerref12_Of lf r) a b c h d (ii 0)
theorem lqB_balerref12_Of {lf : Nat} {r : RT} (K : KT) : ∀ fu, lpB_balerref12_Of lf r fu (fun a b c d e f g h i j l m => K (.exit 2) (zp [0, 1, 4, 5, 6, 7, 24, 25, 26,
  27, 28, 29] [a, b, c, d, e, f, g, h, i, j, l, m])) = fun a b c d e f g h i j l => loopK (cQ 175 (pb 16 10647) lf r) sB_balerref12_Of fu (zp sB_balerref12_Of [a, b, c, d, e, f, g, h, i, j, l]) K
  | 0 => by funext a b c d e f g h i j l; kernel_rfl
  | fu + 1 => by
    have ih := lqB_balerref12_Of (lf := lf) (r := r) K fu
    funext a b c d e f g h i j l
    rw [lpB_balerref12_Of]
    simp only [ih]
    kernel_rfl
theorem lqD_balerref12_Of {lf : Nat} {r : RT} (K : KT) : ∀ fu, lpD_balerref12_Of lf r fu (fun a b c d e f g h i j l m n o p q => K (.exit 6) (zp [0, 1, 4, 5, 6, 7, 10,
  12, 24, 25, 26, 27, 28, 29, 42, 43] [a, b, c, d, e, f, g, h, i, j, l, m, n, o, p, q])) = fun a b c d e f g h i j l m n o p q s t u v w => loopK (cQ 175 (pb 28
  46971287) lf r) sD_balerref12_Of fu (zp sD_balerref12_Of [a, b, c, d, e, f, g, h, i, j, l, m, n, o, p, q, s, t, u, v, w]) K
  | 0 => by funext a b c d e f g h i j l m n o p q s t u v w; kernel_rfl
  | fu + 1 => by
    have ih := lqD_balerref12_Of (lf := lf) (r := r) K fu
    funext a b c d e f g h i j l m n o p q s t u v w
    rw [lpD_balerref12_Of]
    simp only [ih]
    kernel_rfl
theorem kqD_balerref12_Of {lf : Nat} {r : RT} (K : KT) (fu : Nat) : KBD_balerref12_Of lf r (fun a b c d e f g h => K (.exit 4) (zp [0, 1, 4, 5, 6, 7, 10, 24] [a, b, c,
  d, e, f, g, h])) (fun a b c d e f g h i j l m n o p => loopK (cQ 175 (pb 18 47511) lf r) sC_balerref12_Of fu (zp sC_balerref12_Of [a, b, c, d, e, f, g, h, i, j, l, m,
  n, o, p]) K) = (fun a b c d e f g h i j l m n o p q => (iK 175 (pb 18 47511) (pb 9 179) sC_balerref12_Of fu K lf r) (.exit 6) (zp [0, 1, 4, 5, 6, 7, 10, 12, 24, 25,
  26, 27, 28, 29, 42, 43] [a, b, c, d, e, f, g, h, i, j, l, m, n, o, p, q])) := by kernel_rfl
theorem lqC_balerref12_Of {lf : Nat} {r : RT} (K : KT) : ∀ fu, lpC_balerref12_Of lf r fu (fun a b c d e f g h => K (.exit 4) (zp [0, 1, 4, 5, 6, 7, 10, 24] [a, b, c, d,
  e, f, g, h])) = fun a b c d e f g h i j l m n o p => loopK (cQ 175 (pb 18 47511) lf r) sC_balerref12_Of fu (zp sC_balerref12_Of [a, b, c, d, e, f, g, h, i, j, l, m, n, o, p]) K
  | 0 => by funext a b c d e f g h i j l m n o p; kernel_rfl
  | fu + 1 => by
    have ih := lqC_balerref12_Of (lf := lf) (r := r) K fu
    funext a b c d e f g h i j l m n o p
    rw [lpC_balerref12_Of]
    simp only [ih, kqD_balerref12_Of, lqD_balerref12_Of]
    kernel_rfl
theorem kqC_balerref12_Of {lf : Nat} {r : RT} (K : KT) (fu : Nat) : KBC_balerref12_Of lf r (fun a b => K (.exit 0) (zp [4, 5] [a, b])) (fun a b c d e f => loopK (cQ 175
  (pb 7 23) lf r) sA_balerref12_Of fu (zp sA_balerref12_Of [a, b, c, d, e, f]) K) = (fun a b c d e f g h => (iK 175 (pb 7 23) (pb 10 371) sA_balerref12_Of fu K lf r)
  (.exit 4) (zp [0, 1, 4, 5, 6, 7, 10, 24] [a, b, c, d, e, f, g, h])) := by kernel_rfl
theorem kqB_balerref12_Of {lf : Nat} {r : RT} (K : KT) (fu : Nat) : KBB_balerref12_Of lf r (fun a b => K (.exit 0) (zp [4, 5] [a, b])) (fun a b c d e f => loopK (cQ 175
  (pb 7 23) lf r) sA_balerref12_Of fu (zp sA_balerref12_Of [a, b, c, d, e, f]) K) = (fun a b c d e f g h i j l m => (iK 175 (pb 7 23) (pb 8 83) sA_balerref12_Of fu K lf
  r) (.exit 2) (zp [0, 1, 4, 5, 6, 7, 24, 25, 26, 27, 28, 29] [a, b, c, d, e, f, g, h, i, j, l, m])) := by 
  unfold KBB_balerref12_Of
  simp only [kqC_balerref12_Of, lqC_balerref12_Of]
  kernel_rfl
theorem lqA_balerref12_Of {lf : Nat} {r : RT} (K : KT) : ∀ fu, lpA_balerref12_Of lf r fu (fun a b => K (.exit 0) (zp [4, 5] [a, b])) = fun a b c d e f => loopK (cQ 175
  (pb 7 23) lf r) sA_balerref12_Of fu (zp sA_balerref12_Of [a, b, c, d, e, f]) K
  | 0 => by funext a b c d e f; kernel_rfl
  | fu + 1 => by
    have ih := lqA_balerref12_Of (lf := lf) (r := r) K fu
    funext a b c d e f
    rw [lpA_balerref12_Of]
    simp only [ih, kqB_balerref12_Of, kqC_balerref12_Of, lqB_balerref12_Of, lqC_balerref12_Of]
    kernel_rfl
theorem kqA_balerref12_Of {lf : Nat} {r : RT} : kcA_balerref12_Of lf r = (fun a b => (tK 175 (pb 6 23) lf r) (.exit 0) (zp [4, 5] [a, b])) := by kernel_rfl
theorem st_balerref12_Of {lf : Nat} {r : RT} {a b : V} : evStep Tryz.prog gt lf r 175 #[a, b] = inside (b_balerref12_Of lf r a b) := by 
  unfold b_balerref12_Of
  simp only [kqA_balerref12_Of, lqA_balerref12_Of]
  kernel_rfl

/- balerref13_Bits -/
def lpA_balerref13_Bits (lf : Nat) (r : RT) : Nat→(V→M V)→V→V→V→V→V→V→V→V→M V
  | 0, _, _, _, _, _, _, _, _, _ => .fail
  | fu + 1, k, a, b, c, d, e, f, g, h => kls h g fun i => ifV i (kix f h fun j => kld j fun l => kit (Value.string { data := #[48, 49, 50, 51, 52, 53] }) l fun j => kcl
   r 173 [e, j] fun m => kcl r 167 [e, m] fun j => ksx (Value.string { data := #[49, 49, 49, 49, 49, 49] }) none (some m) fun e => kad d e fun n => kad n (Value.string {
   data := #[48] }) fun o => kad h (ii 1) fun d => lpA_balerref13_Bits lf r fu k a b c o j f g d) (k d)
def sA_balerref13_Bits : List Nat := [0, 1, 4, 5, 6, 18, 19, 20]
def kcA_balerref13_Bits (lf : Nat) (r : RT) : (V→M V) := fun a => outK [a]
def b_balerref13_Bits (lf : Nat) (r : RT) (a b : V) : M V := kcv .u32 b fun c => kcl r 103 [c, (ii 3)] fun d => kln a fun e => kcv .u32 e fun f => kcl r 103 [f, (ii 15)]
  fun g => kad d g fun h => kln a fun c => lpA_balerref13_Bits lf r lf (kcA_balerref13_Bits lf r) a b (Value.string { data := #[] }) h (Value.string { data := #[48, 49, 50, 51, 52, 53] }) a c (ii 0)
theorem lqA_balerref13_Bits {lf : Nat} {r : RT} (K : KT) : ∀ fu, lpA_balerref13_Bits lf r fu (fun a => K (.exit 0) (zp [5] [a])) = fun a b c d e f g h => loopK (cQ 176
  (pb 7 23) lf r) sA_balerref13_Bits fu (zp sA_balerref13_Bits [a, b, c, d, e, f, g, h]) K
  | 0 => by funext a b c d e f g h; kernel_rfl
  | fu + 1 => by
    have ih := lqA_balerref13_Bits (lf := lf) (r := r) K fu
    funext a b c d e f g h
    rw [lpA_balerref13_Bits]
    simp only [ih]
    kernel_rfl
theorem kqA_balerref13_Bits {lf : Nat} {r : RT} : kcA_balerref13_Bits lf r = (fun a => (tK 176 (pb 6 23) lf r) (.exit 0) (zp [5] [a])) := by kernel_rfl
theorem st_balerref13_Bits {lf : Nat} {r : RT} {a b : V} : evStep Tryz.prog gt lf r 176 #[a, b] = inside (b_balerref13_Bits lf r a b) := by 
  unfold b_balerref13_Bits
  simp only [kqA_balerref13_Bits, lqA_balerref13_Bits]
  kernel_rfl

/- balerref11_Bits -/
def lpB_balerref11_Bits (lf : Nat) (r : RT) : Nat→(V→V→V→V→V→V→V→M V)→V→V→V→V→V→V→V→V→V→V→M V
  | 0, _, _, _, _, _, _, _, _, _, _, _ => .fail
  | fu + 1, k, a, b, c, d, e, f, g, h, i, j => kls j (ii 40) fun l => ifV l (ksb e d fun m => kls j m fun n => (fun m => ifV n (kad c (Value.string { data := #[49, 48]
   }) fun o => m o) (m c)) fun c => ksb d e fun m => kls j m fun o => ifV o (kad c (Value.string { data := #[49, 49] }) fun m => kad j (ii 1) fun c =>
   lpB_balerref11_Bits lf r fu k a b m d e f g h i c) (kad j (ii 1) fun m => lpB_balerref11_Bits lf r fu k a b c d e f g h i m)) (k a b c e f g h)
def sB_balerref11_Bits : List Nat := [0, 2, 3, 4, 6, 16, 17, 18, 19, 22]
def KBB_balerref11_Bits (lf : Nat) (r : RT) (k : (V→M V)) (again : V→V→V→V→V→V→V→M V) : (V→V→V→V→V→V→V→M V) := fun a b c d e f g => kad c (Value.string { data := #[48]
  }) fun h => kad g (ii 1) fun c => again a b h d e f c
def lpA_balerref11_Bits (lf : Nat) (r : RT) : Nat→(V→M V)→V→V→V→V→V→V→V→M V
  | 0, _, _, _, _, _, _, _, _ => .fail
  | fu + 1, k, a, b, c, d, e, f, g => kls g f fun h => ifV h (kix e g fun i => kld i fun j => lpB_balerref11_Bits lf r lf (KBB_balerref11_Bits lf r k
   (lpA_balerref11_Bits lf r fu k)) a b c d j e f g h (ii 0)) (k c)
def sA_balerref11_Bits : List Nat := [0, 2, 3, 4, 16, 17, 18]
abbrev kcB_balerref11_Bits (lf : Nat) (r : RT) (fu : Nat) (k : (V→M V)) : (V→V→V→V→V→V→V→M V) := KBB_balerref11_Bits lf r k (lpA_balerref11_Bits lf r fu k)
def kcA_balerref11_Bits (lf : Nat) (r : RT) : (V→M V) := fun a => outK [a]
def b_balerref11_Bits (lf : Nat) (r : RT) (a : V) : M V := kix a (ii 0) fun b => kld b fun c => kcv .u32 c fun d => kcl r 103 [d, (ii 5)] fun e => kix a (ii 0) fun b =>
  kld b fun c => kln a fun b => lpA_balerref11_Bits lf r lf (kcA_balerref11_Bits lf r) a (Value.string { data := #[] }) e c a b (ii 0)
theorem lqB_balerref11_Bits {lf : Nat} {r : RT} (K : KT) : ∀ fu, lpB_balerref11_Bits lf r fu (fun a b c d e f g => K (.exit 2) (zp [0, 2, 3, 6, 16, 17, 18] [a, b, c, d,
  e, f, g])) = fun a b c d e f g h i j => loopK (cQ 177 (pb 16 10647) lf r) sB_balerref11_Bits fu (zp sB_balerref11_Bits [a, b, c, d, e, f, g, h, i, j]) K
  | 0 => by funext a b c d e f g h i j; kernel_rfl
  | fu + 1 => by
    have ih := lqB_balerref11_Bits (lf := lf) (r := r) K fu
    funext a b c d e f g h i j
    rw [lpB_balerref11_Bits]
    simp only [ih]
    kernel_rfl
theorem kqB_balerref11_Bits {lf : Nat} {r : RT} (K : KT) (fu : Nat) : KBB_balerref11_Bits lf r (fun a => K (.exit 0) (zp [3] [a])) (fun a b c d e f g => loopK (cQ 177
  (pb 7 23) lf r) sA_balerref11_Bits fu (zp sA_balerref11_Bits [a, b, c, d, e, f, g]) K) = (fun a b c d e f g => (iK 177 (pb 7 23) (pb 8 83) sA_balerref11_Bits fu K lf
  r) (.exit 2) (zp [0, 2, 3, 6, 16, 17, 18] [a, b, c, d, e, f, g])) := by kernel_rfl
theorem lqA_balerref11_Bits {lf : Nat} {r : RT} (K : KT) : ∀ fu, lpA_balerref11_Bits lf r fu (fun a => K (.exit 0) (zp [3] [a])) = fun a b c d e f g => loopK (cQ 177 (pb
  7 23) lf r) sA_balerref11_Bits fu (zp sA_balerref11_Bits [a, b, c, d, e, f, g]) K
  | 0 => by funext a b c d e f g; kernel_rfl
  | fu + 1 => by
    have ih := lqA_balerref11_Bits (lf := lf) (r := r) K fu
    funext a b c d e f g
    rw [lpA_balerref11_Bits]
    simp only [ih, kqB_balerref11_Bits, lqB_balerref11_Bits]
    kernel_rfl
theorem kqA_balerref11_Bits {lf : Nat} {r : RT} : kcA_balerref11_Bits lf r = (fun a => (tK 177 (pb 6 23) lf r) (.exit 0) (zp [3] [a])) := by kernel_rfl
theorem st_balerref11_Bits {lf : Nat} {r : RT} {a : V} : evStep Tryz.prog gt lf r 177 #[a] = inside (b_balerref11_Bits lf r a) := by 
  unfold b_balerref11_Bits
  simp only [kqA_balerref11_Bits, lqA_balerref11_Bits]
  kernel_rfl

/- balerref10_Codes -/
def lpC_balerref10_Codes (lf : Nat) (r : RT) : Nat→(V→V→V→V→V→V→V→V→V→V→M V)→V→V→V→V→V→V→V→V→V→V→V→V→V→V→V→V→M V
  | 0, _, _, _, _, _, _, _, _, _, _, _, _, _, _, _, _, _ => .fail
  | fu + 1, k, a, b, c, d, e, f, g, h, i, j, l, m, n, o, p, q => kls q p fun s => ifV s (kad d (Value.string { data := #[48] }) fun t => kad q (ii 1) fun d =>
   lpC_balerref10_Codes lf r fu k a b c t e f g h i j l m n o p d) (k a b c d e f h i j l)
def sC_balerref10_Codes : List Nat := [0, 2, 3, 4, 5, 6, 7, 12, 15, 16, 17, 18, 24, 26, 27, 28]
def KBC_balerref10_Codes (lf : Nat) (r : RT) (k : (V→V→V→V→V→M V)) (again : V→V→V→V→V→V→V→V→V→M V) : (V→V→V→V→V→V→V→V→V→V→M V) := fun a b c d e f g h i j => kix c f fun
  l => kst l d fun _ => kad j (ii 1) fun l => again a b c d e g h i l
def lpB_balerref10_Codes (lf : Nat) (r : RT) : Nat→(V→V→V→V→V→M V)→V→V→V→V→V→V→V→V→V→M V
  | 0, _, _, _, _, _, _, _, _, _, _ => .fail
  | fu + 1, k, a, b, c, d, e, f, g, h, i => kls i h fun j => ifV j (kix g i fun l => kld l fun m => kne m e fun l => ifV l (kad i (ii 1) fun n => lpB_balerref10_Codes lf
   r fu k a b c d e f g h n) (keq d (Value.string { data := #[] }) fun n => ifV n (lpC_balerref10_Codes lf r lf (KBC_balerref10_Codes lf r k (lpB_balerref10_Codes lf r
   fu k)) a b c d e i m f g h i j l n e (ii 0)) (kcl r 207 [d, e] fun o => kix c i fun d => kst d o fun _ => kad i (ii 1) fun d => lpB_balerref10_Codes lf r fu k a b c o e f g h d))) (k a b c d e)
def sB_balerref10_Codes : List Nat := [0, 2, 3, 4, 5, 12, 15, 16, 17]
abbrev kcC_balerref10_Codes (lf : Nat) (r : RT) (fu : Nat) (k : (V→V→V→V→V→M V)) : (V→V→V→V→V→V→V→V→V→V→M V) := KBC_balerref10_Codes lf r k (lpB_balerref10_Codes lf r fu k)
def KBB_balerref10_Codes (lf : Nat) (r : RT) (k : (V→M V)) (again : V→V→V→V→V→M V) : (V→V→V→V→V→M V) := fun a b c d e => kad e (ii 1) fun f => again a b c d f
def lpA_balerref10_Codes (lf : Nat) (r : RT) : Nat→(V→M V)→V→V→V→V→V→M V
  | 0, _, _, _, _, _, _ => .fail
  | fu + 1, k, a, b, c, d, e => klq e (ii 20) fun f => ifV f (kln a fun g => lpB_balerref10_Codes lf r lf (KBB_balerref10_Codes lf r k (lpA_balerref10_Codes lf r fu k)) a b c d e f a g (ii 0)) (k c)
def sA_balerref10_Codes : List Nat := [0, 2, 3, 4, 5]
abbrev kcB_balerref10_Codes (lf : Nat) (r : RT) (fu : Nat) (k : (V→M V)) : (V→V→V→V→V→M V) := KBB_balerref10_Codes lf r k (lpA_balerref10_Codes lf r fu k)
def kcA_balerref10_Codes (lf : Nat) (r : RT) : (V→M V) := fun a => outK [a]
def b_balerref10_Codes (lf : Nat) (r : RT) (a : V) : M V := kln a fun b => kmk 9 [(Value.string { data := #[] })] b b fun c => lpA_balerref10_Codes lf r lf
  (kcA_balerref10_Codes lf r) a nS c (Value.string { data := #[] }) (ii 1)
theorem lqC_balerref10_Codes {lf : Nat} {r : RT} (K : KT) : ∀ fu, lpC_balerref10_Codes lf r fu (fun a b c d e f g h i j => K (.exit 4) (zp [0, 2, 3, 4, 5, 6, 12, 15, 16,
  17] [a, b, c, d, e, f, g, h, i, j])) = fun a b c d e f g h i j l m n o p q => loopK (cQ 178 (pb 25 5661847) lf r) sC_balerref10_Codes fu (zp sC_balerref10_Codes [a, b,
  c, d, e, f, g, h, i, j, l, m, n, o, p, q]) K
  | 0 => by funext a b c d e f g h i j l m n o p q; kernel_rfl
  | fu + 1 => by
    have ih := lqC_balerref10_Codes (lf := lf) (r := r) K fu
    funext a b c d e f g h i j l m n o p q
    rw [lpC_balerref10_Codes]
    simp only [ih]
    kernel_rfl
theorem kqC_balerref10_Codes {lf : Nat} {r : RT} (K : KT) (fu : Nat) : KBC_balerref10_Codes lf r (fun a b c d e => K (.exit 2) (zp [0, 2, 3, 4, 5] [a, b, c, d, e])) (fun
  a b c d e f g h i => loopK (cQ 178 (pb 13 1175) lf r) sB_balerref10_Codes fu (zp sB_balerref10_Codes [a, b, c, d, e, f, g, h, i]) K) = (fun a b c d e f g h i j => (iK
  178 (pb 13 1175) (pb 11 691) sB_balerref10_Codes fu K lf r) (.exit 4) (zp [0, 2, 3, 4, 5, 6, 12, 15, 16, 17] [a, b, c, d, e, f, g, h, i, j])) := by kernel_rfl
theorem lqB_balerref10_Codes {lf : Nat} {r : RT} (K : KT) : ∀ fu, lpB_balerref10_Codes lf r fu (fun a b c d e => K (.exit 2) (zp [0, 2, 3, 4, 5] [a, b, c, d, e])) = fun
  a b c d e f g h i => loopK (cQ 178 (pb 13 1175) lf r) sB_balerref10_Codes fu (zp sB_balerref10_Codes [a, b, c, d, e, f, g, h, i]) K
  | 0 => by funext a b c d e f g h i; kernel_rfl
  | fu + 1 => by
    have ih := lqB_balerref10_Codes (lf := lf) (r := r) K fu
    funext a b c d e f g h i
    rw [lpB_balerref10_Codes]
    simp only [ih, kqC_balerref10_Codes, lqC_balerref10_Codes]
    kernel_rfl
theorem kqB_balerref10_Codes {lf : Nat} {r : RT} (K : KT) (fu : Nat) : KBB_balerref10_Codes lf r (fun a => K (.exit 0) (zp [3] [a])) (fun a b c d e => loopK (cQ 178 (pb
  7 23) lf r) sA_balerref10_Codes fu (zp sA_balerref10_Codes [a, b, c, d, e]) K) = (fun a b c d e => (iK 178 (pb 7 23) (pb 5 9) sA_balerref10_Codes fu K lf r) (.exit 2)
  (zp [0, 2, 3, 4, 5] [a, b, c, d, e])) := by kernel_rfl
theorem lqA_balerref10_Codes {lf : Nat} {r : RT} (K : KT) : ∀ fu, lpA_balerref10_Codes lf r fu (fun a => K (.exit 0) (zp [3] [a])) = fun a b c d e => loopK (cQ 178 (pb 7
  23) lf r) sA_balerref10_Codes fu (zp sA_balerref10_Codes [a, b, c, d, e]) K
  | 0 => by funext a b c d e; kernel_rfl
  | fu + 1 => by
    have ih := lqA_balerref10_Codes (lf := lf) (r := r) K fu
    funext a b c d e
    rw [lpA_balerref10_Codes]
    simp only [ih, kqB_balerref10_Codes, lqB_balerref10_Codes]
    kernel_rfl
theorem kqA_balerref10_Codes {lf : Nat} {r : RT} : kcA_balerref10_Codes lf r = (fun a => (tK 178 (pb 6 23) lf r) (.exit 0) (zp [3] [a])) := by kernel_rfl
theorem st_balerref10_Codes {lf : Nat} {r : RT} {a : V} : evStep Tryz.prog gt lf r 178 #[a] = inside (b_balerref10_Codes lf r a) := by 
  unfold b_balerref10_Codes
  simp only [kqA_balerref10_Codes, lqA_balerref10_Codes]
  kernel_rfl

/- balerref02_Bits -/
def lpA_balerref02_Bits (lf : Nat) (r : RT) : Nat→(V→M V)→V→V→V→M V
  | 0, _, _, _, _ => .fail
  | fu + 1, k, a, b, c => kls c (ii 8) fun d => ifV d (kgq a (i3 2147483648) fun e => ifV e (ksb a (i3 2147483648) fun f => kml f (i3 2) fun g => kxo g (i3 79764919) fun
   h => kad c (ii 1) fun a => lpA_balerref02_Bits lf r fu k h b a) (kml a (i3 2) fun f => kad c (ii 1) fun a => lpA_balerref02_Bits lf r fu k f b a)) (k a)
def sA_balerref02_Bits : List Nat := [0, 2, 3]
def kcA_balerref02_Bits (lf : Nat) (r : RT) : (V→M V) := fun a => outK [a]
def b_balerref02_Bits (lf : Nat) (r : RT) (a : V) : M V := lpA_balerref02_Bits lf r lf (kcA_balerref02_Bits lf r) a (i3 0) (ii 0)
theorem lqA_balerref02_Bits {lf : Nat} {r : RT} (K : KT) : ∀ fu, lpA_balerref02_Bits lf r fu (fun a => K (.exit 0) (zp [0] [a])) = fun a b c => loopK (cQ 179 (pb 5 5) lf
  r) sA_balerref02_Bits fu (zp sA_balerref02_Bits [a, b, c]) K
  | 0 => by funext a b c; kernel_rfl
  | fu + 1 => by
    have ih := lqA_balerref02_Bits (lf := lf) (r := r) K fu
    funext a b c
    rw [lpA_balerref02_Bits]
    simp only [ih]
    kernel_rfl
theorem kqA_balerref02_Bits {lf : Nat} {r : RT} : kcA_balerref02_Bits lf r = (fun a => (tK 179 (pb 4 5) lf r) (.exit 0) (zp [0] [a])) := by kernel_rfl
theorem st_balerref02_Bits {lf : Nat} {r : RT} {a : V} : evStep Tryz.prog gt lf r 179 #[a] = inside (b_balerref02_Bits lf r a) := by 
  unfold b_balerref02_Bits
  simp only [kqA_balerref02_Bits, lqA_balerref02_Bits]
  kernel_rfl

/- picks_Reader_Picks -/
def b_picks_Reader_Picks (lf : Nat) (r : RT) (a : V) : M V := kpe a nP fun b => ifV b (outK [nS]) (knn a fun c => kfa 8 c fun d => kld d fun e => kcl r 208 [e] fun f => outK [f])
theorem st_picks_Reader_Picks {lf : Nat} {r : RT} {a : V} : evStep Tryz.prog gt lf r 180 #[a] = inside (b_picks_Reader_Picks lf r a) := by kernel_rfl

/- unbwt_Inverter_step -/
def b_unbwt_Inverter_step (lf : Nat) (r : RT) (a : V) : M V := knn a fun b => kfa 0 b fun c => kld c fun d => klx d fun e => knn a fun b => kfa 260 b fun c => kld c fun
  d => krm d e fun f => knn a fun b => kfa 260 b fun c => kld c fun d => kqu d e fun g => keq g (ii 0) fun b => (fun c => ifV b (knn a fun d => kfa 0 d fun h => kld h
  fun i => kit i f fun j => knn a fun l => kfa 1 l fun m => kia 256 m j fun n => kld n fun o => kad o (ii 1) fun p => knn a fun q => kfa 1 q fun s => kia 256 s j fun t
  => kst t p fun _ => ksb e (ii 1) fun d => keq f d fun h => ifV h (kcl r 209 [a] fun d => c) (c)) (keq g (ii 1) fun d => ifV d (knn a fun h => kfa 0 h fun i => kld i
  fun j => kit j f fun l => knn a fun h => kfa 257 h fun i => kld i fun j => knn a fun m => kfa 1 m fun n => kia 256 n l fun o => kld o fun p => kix j p fun q => kst q f
  fun _ => knn a fun h => kfa 1 h fun i => kia 256 i l fun j => kld j fun m => kad m (ii 1) fun n => knn a fun o => kfa 1 o fun p => kia 256 p l fun q => kst q n fun _
  => c) (knn a fun h => kfa 257 h fun i => kld i fun j => knn a fun l => kfa 258 l fun m => kld m fun n => kix j n fun o => kld o fun p => knn a fun q => kfa 258 q fun s
  => kst s p fun _ => knn a fun h => kfa 259 h fun i => kld i fun j => knn a fun l => kfa 0 l fun m => kld m fun n => knn a fun o => kfa 258 o fun p => kld p fun q =>
  kit n q fun s => kb1 5 1 s fun t => kap 5 1 j t fun u => knn a fun v => kfa 259 v fun w => kst w u fun _ => c))) (knn a fun c => kfa 260 c fun d => kld d fun h => kad
  h (ii 1) fun i => knn a fun j => kfa 260 j fun l => kst l i fun _ => outK [])
theorem st_unbwt_Inverter_step {lf : Nat} {r : RT} {a : V} : evStep Tryz.prog gt lf r 181 #[a] = inside (b_unbwt_Inverter_step lf r a) := by kernel_rfl

/- feed_Unpacker_Wants -/
def b_feed_Unpacker_Wants (lf : Nat) (r : RT) (a : V) : M V := kpn a nP fun b => ifV b (knn a fun c => kfa 0 c fun d => kfa 1 d fun e => kld e fun f => keq f (ii 4) fun g => outK [g]) (outK [bF])
theorem st_feed_Unpacker_Wants {lf : Nat} {r : RT} {a : V} : evStep Tryz.prog gt lf r 182 #[a] = inside (b_feed_Unpacker_Wants lf r a) := by kernel_rfl

/- crc_Sum_Put -/
def b_crc_Sum_Put (lf : Nat) (r : RT) (a b : V) : M V := kpn a nP fun c => ifV c (knn a fun d => kfa 0 d fun e => knn a fun f => kfa 256 f fun g => kld g fun h => kcl r
  214 [e, h, b] fun i => knn a fun j => kfa 256 j fun l => kst l i fun _ => outK []) (outK [])
theorem st_crc_Sum_Put {lf : Nat} {r : RT} {a b : V} : evStep Tryz.prog gt lf r 184 #[a, b] = inside (b_crc_Sum_Put lf r a b) := by kernel_rfl

/- feed_Unpacker_End -/
def b_feed_Unpacker_End (lf : Nat) (r : RT) (a : V) : M V := kpe a nP fun b => ifV b (outK [(ii 7)]) (kcl r 182 [a] fun c => ifV c (outK [(ii 24)]) (kbd z168 [] fun d =>
  knn a fun e => kfa 0 e fun f => ksg 2 f d fun _ => outK [(ii 0)]))
theorem st_feed_Unpacker_End {lf : Nat} {r : RT} {a : V} : evStep Tryz.prog gt lf r 185 #[a] = inside (b_feed_Unpacker_End lf r a) := by kernel_rfl

/- crc_Sum_Value -/
def b_crc_Sum_Value (lf : Nat) (r : RT) (a : V) : M V := kpe a nP fun b => ifV b (outK [(i3 0)]) (knn a fun c => kfa 256 c fun d => kld d fun e => knx e fun f => outK [f])
theorem st_crc_Sum_Value {lf : Nat} {r : RT} {a : V} : evStep Tryz.prog gt lf r 186 #[a] = inside (b_crc_Sum_Value lf r a) := by kernel_rfl

/- crc_Table -/
def lpB_crc_Table (lf : Nat) (r : RT) : Nat→(V→V→V→V→V→M V)→V→V→V→V→V→V→V→M V
  | 0, _, _, _, _, _, _, _, _ => .fail
  | fu + 1, k, a, b, c, d, e, f, g => kls g (ii 8) fun h => ifV h (ksr d (i6 31) fun i => ksl d (i6 1) fun j => kml i (i3 79764919) fun l => kxo j l fun m => kad g (ii
   1) fun d => lpB_crc_Table lf r fu k a b c m e f d) (k a b c d e)
def sB_crc_Table : List Nat := [0, 1, 2, 3, 5, 6, 11]
def KBB_crc_Table (lf : Nat) (r : RT) (k : (V→V→M V)) (again : V→V→V→M V) : (V→V→V→V→V→M V) := fun a b c d e => kia 256 b c fun f => kst f d fun _ => kad e (ii 1) fun f => again a b f
def lpA_crc_Table (lf : Nat) (r : RT) : Nat→(V→V→M V)→V→V→V→M V
  | 0, _, _, _, _ => .fail
  | fu + 1, k, a, b, c => kls c (ii 256) fun d => ifV d (kcv .u32 c fun e => ksl e (i6 24) fun f => lpB_crc_Table lf r lf (KBB_crc_Table lf r k (lpA_crc_Table lf r fu k)) a b c f c d (ii 0)) (k a b)
def sA_crc_Table : List Nat := [0, 1, 5]
abbrev kcB_crc_Table (lf : Nat) (r : RT) (fu : Nat) (k : (V→V→M V)) : (V→V→V→V→V→M V) := KBB_crc_Table lf r k (lpA_crc_Table lf r fu k)
def kcA_crc_Table (lf : Nat) (r : RT) : (V→V→M V) := fun a b => klg 256 b fun c => ksg 256 a c fun _ => klg 256 a fun b => outK [b]
def b_crc_Table (lf : Nat) (r : RT)  : M V := kal 257 z257 fun a => kal 257 z257 fun b => lpA_crc_Table lf r lf (kcA_crc_Table lf r) a b (ii 0)
theorem lqB_crc_Table {lf : Nat} {r : RT} (K : KT) : ∀ fu, lpB_crc_Table lf r fu (fun a b c d e => K (.exit 2) (zp [0, 1, 2, 3, 5] [a, b, c, d, e])) = fun a b c d e f g
  => loopK (cQ 187 (pb 16 11467) lf r) sB_crc_Table fu (zp sB_crc_Table [a, b, c, d, e, f, g]) K
  | 0 => by funext a b c d e f g; kernel_rfl
  | fu + 1 => by
    have ih := lqB_crc_Table (lf := lf) (r := r) K fu
    funext a b c d e f g
    rw [lpB_crc_Table]
    simp only [ih]
    kernel_rfl
theorem kqB_crc_Table {lf : Nat} {r : RT} (K : KT) (fu : Nat) : KBB_crc_Table lf r (fun a b => K (.exit 0) (zp [0, 1] [a, b])) (fun a b c => loopK (cQ 187 (pb 6 11) lf
  r) sA_crc_Table fu (zp sA_crc_Table [a, b, c]) K) = (fun a b c d e => (iK 187 (pb 6 11) (pb 9 179) sA_crc_Table fu K lf r) (.exit 2) (zp [0, 1, 2, 3, 5] [a, b, c, d, e])) := by kernel_rfl
theorem lqA_crc_Table {lf : Nat} {r : RT} (K : KT) : ∀ fu, lpA_crc_Table lf r fu (fun a b => K (.exit 0) (zp [0, 1] [a, b])) = fun a b c => loopK (cQ 187 (pb 6 11) lf r)
  sA_crc_Table fu (zp sA_crc_Table [a, b, c]) K
  | 0 => by funext a b c; kernel_rfl
  | fu + 1 => by
    have ih := lqA_crc_Table (lf := lf) (r := r) K fu
    funext a b c
    rw [lpA_crc_Table]
    simp only [ih, kqB_crc_Table, lqB_crc_Table]
    kernel_rfl
theorem kqA_crc_Table {lf : Nat} {r : RT} : kcA_crc_Table lf r = (fun a b => (tK 187 (pb 5 11) lf r) (.exit 0) (zp [0, 1] [a, b])) := by kernel_rfl
theorem st_crc_Table {lf : Nat} {r : RT}  : evStep Tryz.prog gt lf r 187 #[] = inside (b_crc_Table lf r) := by 
  unfold b_crc_Table
  simp only [kqA_crc_Table, lqA_crc_Table]
  kernel_rfl

/- bits_Reader_Get -/
def lpA_bits_Reader_Get (lf : Nat) (r : RT) : Nat→(V→M V)→V→V→V→V→V→V→V→V→V→V→M V
  | 0, _, _, _, _, _, _, _, _, _, _, _ => .fail
  | fu + 1, k, a, b, c, d, e, f, g, h, i, j => kls j i fun l => ifV l (ksl e (i6 1) fun m => knn a fun n => kfa 2 n fun o => kld o fun p => kcl r 215 [a, p] fun q => kor
   m q fun s => knn a fun e => kfa 2 e fun m => kld m fun n => kad n (ii 1) fun o => knn a fun p => kfa 2 p fun q => kst q o fun _ => kad j (ii 1) fun e =>
   lpA_bits_Reader_Get lf r fu k a b c d s f g h i e) (k e)
def sA_bits_Reader_Get : List Nat := [0, 1, 4, 5, 6, 7, 10, 17, 22, 23]
def kcA_bits_Reader_Get (lf : Nat) (r : RT) : (V→M V) := fun a => outK [a, (ii 0)]
def b_bits_Reader_Get (lf : Nat) (r : RT) (a b : V) : M V := kpe a nP fun c => ifV c (outK [(i3 0), (ii 7)]) (kls b (ii 0) fun d => ifV d (outK [(i3 0), (ii 1)]) (kgr b
  (ii 32) fun e => ifV e (outK [(i3 0), (ii 1)]) (kcl r 98 [a] fun d => kls d b fun f => ifV f (outK [(i3 0), (ii 3)]) (lpA_bits_Reader_Get lf r lf (kcA_bits_Reader_Get
  lf r) a b (i3 0) (ii 0) (i3 0) c e f b (ii 0)))))
theorem lqA_bits_Reader_Get {lf : Nat} {r : RT} (K : KT) : ∀ fu, lpA_bits_Reader_Get lf r fu (fun a => K (.exit 1) (zp [6] [a])) = fun a b c d e f g h i j => loopK (cQ
  188 (pb 7 23) lf r) sA_bits_Reader_Get fu (zp sA_bits_Reader_Get [a, b, c, d, e, f, g, h, i, j]) K
  | 0 => by funext a b c d e f g h i j; kernel_rfl
  | fu + 1 => by
    have ih := lqA_bits_Reader_Get (lf := lf) (r := r) K fu
    funext a b c d e f g h i j
    rw [lpA_bits_Reader_Get]
    simp only [ih]
    kernel_rfl
theorem kqA_bits_Reader_Get {lf : Nat} {r : RT} : kcA_bits_Reader_Get lf r = (fun a => (tK 188 (pb 6 23) lf r) (.exit 1) (zp [6] [a])) := by kernel_rfl
theorem st_bits_Reader_Get {lf : Nat} {r : RT} {a b : V} : evStep Tryz.prog gt lf r 188 #[a, b] = inside (b_bits_Reader_Get lf r a b) := by 
  unfold b_bits_Reader_Get
  simp only [kqA_bits_Reader_Get, lqA_bits_Reader_Get]
  kernel_rfl

/- block_NewReader -/
def b_block_NewReader (lf : Nat) (r : RT) (a : V) : M V := kls a (ii 5) fun b => ifV b (outK [nP, (ii 1)]) (kgr a (ii 900000) fun c => ifV c (outK [nP, (ii 1)]) (kbd
  z207 [(1, 1, a)] fun b => kbx 207 b fun d => outK [d, (ii 0)]))
theorem st_block_NewReader {lf : Nat} {r : RT} {a : V} : evStep Tryz.prog gt lf r 189 #[a] = inside (b_block_NewReader lf r a) := by kernel_rfl

/- block_Reader_Step -/
def b_block_Reader_Step (lf : Nat) (r : RT) (a b : V) : M V := kpe a nP fun c => ifV c (outK [(ii 7)]) (kpe b nP fun d => ifV d (outK [(ii 7)]) (knn a fun e => kfa 6 e
  fun f => kld f fun g => ifV g (outK [(ii 7)]) (knn a fun c => kfa 7 c fun d => kld d fun e => kne e (ii 0) fun f => ifV f (knn a fun c => kfa 7 c fun d => kld d fun e
  => outK [e]) (kcl r 216 [a, b] fun c => kne c (ii 3) fun d => ifV d (knn a fun e => kfa 7 e fun h => kst h c fun _ => outK [c]) (outK [c])))))
theorem st_block_Reader_Step {lf : Nat} {r : RT} {a b : V} : evStep Tryz.prog gt lf r 190 #[a, b] = inside (b_block_Reader_Step lf r a b) := by kernel_rfl

/- block_Reader_Done -/
def b_block_Reader_Done (lf : Nat) (r : RT) (a : V) : M V := kpn a nP fun b => ifV b (knn a fun c => kfa 6 c fun d => kld d fun e => outK [e]) (outK [bF])
theorem st_block_Reader_Done {lf : Nat} {r : RT} {a : V} : evStep Tryz.prog gt lf r 191 #[a] = inside (b_block_Reader_Done lf r a) := by kernel_rfl

/- block_Reader_Got -/
def b_block_Reader_Got (lf : Nat) (r : RT) (a : V) : M V := kal 134 z134 fun b => kcl r 191 [a] fun c => knt c fun d => ifV d (kbd z134 [] fun c => ksg 3 b c fun _ =>
  klg 3 b fun a => outK [a]) (knn a fun c => kfa 5 c fun e => (timed (kld e M.ret)).bind fun f => (timed (kts f.1 M.ret)).bind fun g => knn a fun h => kfa 4 h fun i =>
  (timed (kld i M.ret)).bind fun j => knn a fun l => kfa 3 l fun m => (timed (kld m M.ret)).bind fun n => kbd z134 [(0, 1, g.1), (1, 1, j.1), (2, 1, n.1)] fun o =>
  (timed (ksg 3 b o M.ret)).bind fun p => chkT ((!(clash3 g.2 j.2) && (!(clash3 g.2 n.2) && true)) && true) (klg 3 b fun a => outK [a]))
theorem st_block_Reader_Got {lf : Nat} {r : RT} {a : V} : evStep Tryz.prog gt lf r 192 #[a] = inside (b_block_Reader_Got lf r a) := by kernel_rfl

/- bits_Reader_Align -/
def lpA_bits_Reader_Align (lf : Nat) (r : RT) : Nat→(M V)→V→M V
  | 0, _, _ => .fail
  | fu + 1, k, a => kpn a nP fun b => ifV b (knn a fun c => kfa 2 c fun d => kld d fun e => krm e (ii 8) fun f => kne f (ii 0) fun g => ifV g (knn a fun b => kfa 2 b fun
   c => kld c fun d => kad d (ii 1) fun e => knn a fun f => kfa 2 f fun h => kst h e fun _ => lpA_bits_Reader_Align lf r fu k a) (k)) (k)
def sA_bits_Reader_Align : List Nat := [0]
def kcA_bits_Reader_Align (lf : Nat) (r : RT) : (M V) := outK []
def b_bits_Reader_Align (lf : Nat) (r : RT) (a : V) : M V := lpA_bits_Reader_Align lf r lf (kcA_bits_Reader_Align lf r) a
theorem lqA_bits_Reader_Align {lf : Nat} {r : RT} (K : KT) : ∀ fu, lpA_bits_Reader_Align lf r fu (K (.exit 0) []) = fun a => loopK (cQ 193 (pb 2 0) lf r) sA_bits_Reader_Align fu (zp sA_bits_Reader_Align [a]) K
  | 0 => by funext a; kernel_rfl
  | fu + 1 => by
    have ih := lqA_bits_Reader_Align (lf := lf) (r := r) K fu
    funext a
    rw [lpA_bits_Reader_Align]
    simp only [ih]
    kernel_rfl
theorem kqA_bits_Reader_Align {lf : Nat} {r : RT} : kcA_bits_Reader_Align lf r = ((tK 193 (pb 1 0) lf r) (.exit 0) []) := by kernel_rfl
theorem st_bits_Reader_Align {lf : Nat} {r : RT} {a : V} : evStep Tryz.prog gt lf r 193 #[a] = inside (b_bits_Reader_Align lf r a) := by 
  unfold b_bits_Reader_Align
  simp only [kqA_bits_Reader_Align, lqA_bits_Reader_Align]
  kernel_rfl

/- rle_unpack -/
def lpA_rle_unpack (lf : Nat) (r : RT) : Nat→((V→M V) × (V→M V))→V→V→V→V→V→V→M V
  | 0, _, _, _, _, _, _, _ => .fail
  | fu + 1, k, a, b, c, d, e, f => kls f e fun g => ifV g (keq d (ii 4) fun h => (fun i => ifV h (kit a f fun j => kgr j (i1 251) fun l => ifV l (k.2 (ii 25)) (ksb f (ii
   1) fun j => kit a j fun m => kit a f fun n => kcv .i64 n fun o => callV Tryz.prog r b [m, o] fun p => kad f (ii 1) fun d => lpA_rle_unpack lf r fu k a b c (ii 0) e d))
   (kgr d (ii 0) fun j => ifV j (kit a f fun l => ksb f (ii 1) fun m => kit a m fun n => keq l n fun o => ifV o (kad d (ii 1) fun j => i j) (i (ii 1))) (i (ii 1)))) fun
   d => kit a f fun i => callV Tryz.prog r b [i, (ii 1)] fun j => kad f (ii 1) fun i => lpA_rle_unpack lf r fu k a b c d e i) (k.1 d)
def sA_rle_unpack : List Nat := [0, 1, 4, 5, 8, 9]
def kcA_rle_unpack (lf : Nat) (r : RT) : (V→M V) × (V→M V) := (fun a => keq a (ii 4) fun b => ifV b (outK [(ii 24)]) (outK [(ii 0)]), fun a => outK [a])
def b_rle_unpack (lf : Nat) (r : RT) (a b : V) : M V := klx a fun c => lpA_rle_unpack lf r lf (kcA_rle_unpack lf r) a b (ii 0) (ii 0) c (ii 0)
theorem lqA_rle_unpack {lf : Nat} {r : RT} (K : KT) : ∀ fu, lpA_rle_unpack lf r fu ((fun a => K (.exit 0) (zp [5] [a]), fun a => K .ret (zp [4] [a]))) = fun a b c d e f
  => loopK (cQ 194 (pb 6 11) lf r) sA_rle_unpack fu (zp sA_rle_unpack [a, b, c, d, e, f]) K
  | 0 => by funext a b c d e f; kernel_rfl
  | fu + 1 => by
    have ih := lqA_rle_unpack (lf := lf) (r := r) K fu
    funext a b c d e f
    rw [lpA_rle_unpack]
    simp only [ih]
    kernel_rfl
theorem kqA_rle_unpack {lf : Nat} {r : RT} : kcA_rle_unpack lf r = ((fun a => (tK 194 (pb 5 11) lf r) (.exit 0) (zp [5] [a]), fun a => (tK 194 (pb 5 11) lf r) .ret (zp [4] [a]))) := by kernel_rfl
theorem st_rle_unpack {lf : Nat} {r : RT} {a b : V} : evStep Tryz.prog gt lf r 194 #[a, b] = inside (b_rle_unpack lf r a b) := by 
  unfold b_rle_unpack
  simp only [kqA_rle_unpack, lqA_rle_unpack]
  kernel_rfl

/- rle_Decode_1 -/
def lpA_rle_Decode_1 (lf : Nat) (r : RT) : Nat→(M V)→V→V→V→V→V→M V
  | 0, _, _, _, _, _, _ => .fail
  | fu + 1, k, a, b, c, d, e => kls e d fun f => ifV f (kld c fun g => kb1 5 1 a fun h => kap 5 1 g h fun i => kst c i fun _ => kad e (ii 1) fun g => lpA_rle_Decode_1 lf r fu k a b c d g) (k)
def sA_rle_Decode_1 : List Nat := [0, 1, 2, 5, 6]
def kcA_rle_Decode_1 (lf : Nat) (r : RT) : (M V) := outK []
def b_rle_Decode_1 (lf : Nat) (r : RT) (a b c : V) : M V := lpA_rle_Decode_1 lf r lf (kcA_rle_Decode_1 lf r) a b c b (ii 0)
theorem lqA_rle_Decode_1 {lf : Nat} {r : RT} (K : KT) : ∀ fu, lpA_rle_Decode_1 lf r fu (K (.exit 0) []) = fun a b c d e => loopK (cQ 195 (pb 3 1) lf r) sA_rle_Decode_1 fu (zp sA_rle_Decode_1 [a, b, c, d, e]) K
  | 0 => by funext a b c d e; kernel_rfl
  | fu + 1 => by
    have ih := lqA_rle_Decode_1 (lf := lf) (r := r) K fu
    funext a b c d e
    rw [lpA_rle_Decode_1]
    simp only [ih]
    kernel_rfl
theorem kqA_rle_Decode_1 {lf : Nat} {r : RT} : kcA_rle_Decode_1 lf r = ((tK 195 (pb 2 1) lf r) (.exit 0) []) := by kernel_rfl
theorem st_rle_Decode_1 {lf : Nat} {r : RT} {a b c : V} : evStep Tryz.prog gt lf r 195 #[a, b, c] = inside (b_rle_Decode_1 lf r a b c) := by 
  unfold b_rle_Decode_1
  simp only [kqA_rle_Decode_1, lqA_rle_Decode_1]
  kernel_rfl

/- balerref13_ones -/
def lpA_balerref13_ones (lf : Nat) (r : RT) : Nat→(V→M V)→V→V→V→M V
  | 0, _, _, _, _ => .fail
  | fu + 1, k, a, b, c => klx a fun d => kls c d fun e => ifV e (kit a c fun f => keq f (i1 49) fun g => ifV g (kad c (ii 1) fun d => lpA_balerref13_ones lf r fu k a b d) (k c)) (k c)
def sA_balerref13_ones : List Nat := [0, 2, 3]
def kcA_balerref13_ones (lf : Nat) (r : RT) : (V→M V) := fun a => outK [a]
def b_balerref13_ones (lf : Nat) (r : RT) (a : V) : M V := lpA_balerref13_ones lf r lf (kcA_balerref13_ones lf r) a (ii 0) (ii 0)
theorem lqA_balerref13_ones {lf : Nat} {r : RT} (K : KT) : ∀ fu, lpA_balerref13_ones lf r fu (fun a => K (.exit 0) (zp [3] [a])) = fun a b c => loopK (cQ 196 (pb 5 3) lf
  r) sA_balerref13_ones fu (zp sA_balerref13_ones [a, b, c]) K
  | 0 => by funext a b c; kernel_rfl
  | fu + 1 => by
    have ih := lqA_balerref13_ones (lf := lf) (r := r) K fu
    funext a b c
    rw [lpA_balerref13_ones]
    simp only [ih]
    kernel_rfl
theorem kqA_balerref13_ones {lf : Nat} {r : RT} : kcA_balerref13_ones lf r = (fun a => (tK 196 (pb 4 3) lf r) (.exit 0) (zp [3] [a])) := by kernel_rfl
theorem st_balerref13_ones {lf : Nat} {r : RT} {a : V} : evStep Tryz.prog gt lf r 196 #[a] = inside (b_balerref13_ones lf r a) := by 
  unfold b_balerref13_ones
  simp only [kqA_balerref13_ones, lqA_balerref13_ones]
  kernel_rfl

/- balerref11_Read -/
def lpA_balerref11_Read (lf : Nat) (r : RT) : Nat→((V→V→V→M V) × (V→M V))→V→V→V→V→V→V→V→V→M V
  | 0, _, _, _, _, _, _, _, _, _ => .fail
  | fu + 1, k, a, b, c, d, e, f, g, h => kln e fun i => kls i b fun j => ifV j (klx a fun i => keq f i fun l => ifV l (kbd z269 [(2, 1, (ii 3))] fun i => ksg 3 c i fun _
   => k.2 c) (kit a f fun i => keq i (i1 48) fun m => ifV m (kb1 3 1 d fun i => kap 3 1 e i fun n => kad f (ii 1) fun e => lpA_balerref11_Read lf r fu k a b c d n e g h)
   (kad f (ii 1) fun i => klx a fun n => keq i n fun o => ifV o (kbd z269 [(2, 1, (ii 3))] fun i => ksg 3 c i fun _ => k.2 c) (kad f (ii 1) fun i => kit a i fun n => keq
   n (i1 48) fun p => (fun i => ifV p (kad d (ii 1) fun n => i n) (ksb d (ii 1) fun n => i n)) fun d => kls d (ii 1) fun i => ifV i (kbd z269 [(2, 1, (ii 22))] fun i =>
   ksg 3 c i fun _ => k.2 c) (kgr d (ii 20) fun n => ifV n (kbd z269 [(2, 1, (ii 22))] fun i => ksg 3 c i fun _ => k.2 c) (kad f (ii 2) fun i => lpA_balerref11_Read lf r fu k a b c d e i g h)))))) (k.1 c e f)
def sA_balerref11_Read : List Nat := [0, 1, 4, 5, 6, 7, 10, 21]
def kcA_balerref11_Read (lf : Nat) (r : RT) : (V→V→V→M V) × (V→M V) := (fun a b c => kbd z269 [(0, 1, b), (1, 1, c)] fun d => ksg 3 a d fun _ => klg 3 a fun b => outK [b], fun a => klg 3 a fun b => outK [b])
def b_balerref11_Read (lf : Nat) (r : RT) (a b : V) : M V := kal 269 z269 fun c => klx a fun d => kls d (ii 5) fun e => ifV e (kbd z269 [(2, 1, (ii 3))] fun d => ksg 3 c
  d fun _ => klg 3 c fun a => outK [a]) (ksx a none (some (ii 5)) fun d => kcl r 63 [d] fun f => kcv .i64 f fun g => kls g (ii 1) fun d => ifV d (kbd z269 [(2, 1, (ii
  22))] fun d => ksg 3 c d fun _ => klg 3 c fun a => outK [a]) (kgr g (ii 20) fun f => ifV f (kbd z269 [(2, 1, (ii 22))] fun d => ksg 3 c d fun _ => klg 3 c fun a =>
  outK [a]) (lpA_balerref11_Read lf r lf (kcA_balerref11_Read lf r) a b c g nS (ii 5) e f)))
theorem lqA_balerref11_Read {lf : Nat} {r : RT} (K : KT) : ∀ fu, lpA_balerref11_Read lf r fu ((fun a b c => K (.exit 0) (zp [4, 6, 7] [a, b, c]), fun a => K .ret (zp [4]
  [a]))) = fun a b c d e f g h => loopK (cQ 197 (pb 9 63) lf r) sA_balerref11_Read fu (zp sA_balerref11_Read [a, b, c, d, e, f, g, h]) K
  | 0 => by funext a b c d e f g h; kernel_rfl
  | fu + 1 => by
    have ih := lqA_balerref11_Read (lf := lf) (r := r) K fu
    funext a b c d e f g h
    rw [lpA_balerref11_Read]
    simp only [ih]
    kernel_rfl
theorem kqA_balerref11_Read {lf : Nat} {r : RT} : kcA_balerref11_Read lf r = ((fun a b c => (tK 197 (pb 8 63) lf r) (.exit 0) (zp [4, 6, 7] [a, b, c]), fun a => (tK 197
  (pb 8 63) lf r) .ret (zp [4] [a]))) := by kernel_rfl
theorem st_balerref11_Read {lf : Nat} {r : RT} {a b : V} : evStep Tryz.prog gt lf r 197 #[a, b] = inside (b_balerref11_Read lf r a b) := by 
  unfold b_balerref11_Read
  simp only [kqA_balerref11_Read, lqA_balerref11_Read]
  kernel_rfl

/- balerref10_Whole -/
def b_balerref10_Whole (lf : Nat) (r : RT) (a : V) : M V := kcl r 217 [a, (ii 1), (ii 20)] fun b => ifV b (kcl r 218 [a] fun c => keq c (ii 1048576) fun d => outK [d]) (outK [bF])
theorem st_balerref10_Whole {lf : Nat} {r : RT} {a : V} : evStep Tryz.prog gt lf r 198 #[a] = inside (b_balerref10_Whole lf r a) := by kernel_rfl

/- balerref10_Begins -/
def b_balerref10_Begins (lf : Nat) (r : RT) (a b : V) : M V := klx a fun c => klx b fun d => kgq c d fun e => ifV e (klx b fun f => ksx a none (some f) fun g => keq g b fun h => outK [h]) (outK [bF])
theorem st_balerref10_Begins {lf : Nat} {r : RT} {a b : V} : evStep Tryz.prog gt lf r 199 #[a, b] = inside (b_balerref10_Begins lf r a b) := by kernel_rfl

/- balerref07_Reader_Count -/
def b_balerref07_Reader_Count (lf : Nat) (r : RT) (a : V) : M V := kbx 233 a fun b => kfa 2 b fun c => (timed (kld c M.ret)).bind fun d => kfa 3 b fun e => (timed (kld e
  M.ret)).bind fun f => (timed (kcl r 201 [f.1] M.ret)).bind fun g => kad d.1 g.1 fun h => chkT ((!(clash3 d.2 g.2) && true) && true) (outK [h])
theorem st_balerref07_Reader_Count {lf : Nat} {r : RT} {a : V} : evStep Tryz.prog gt lf r 200 #[a] = inside (b_balerref07_Reader_Count lf r a) := by kernel_rfl

/- balerref07_Value -/
def lpA_balerref07_Value (lf : Nat) (r : RT) : Nat→((V→M V) × (V→M V))→V→V→V→V→V→V→V→M V
  | 0, _, _, _, _, _, _, _, _ => .fail
  | fu + 1, k, a, b, c, d, e, f, g => kls g f fun h => ifV h (kix e g fun i => kld i fun j => kgr d (ii 2199023255552) fun i => ifV i (k.2 (ii 2199023255552)) (kad c d
   fun l => kml j d fun m => kad l m fun n => kml (ii 2) d fun c => kad g (ii 1) fun d => lpA_balerref07_Value lf r fu k a b n c e f d)) (k.1 c)
def sA_balerref07_Value : List Nat := [0, 2, 3, 4, 7, 8, 9]
def kcA_balerref07_Value (lf : Nat) (r : RT) : (V→M V) × (V→M V) := (fun a => outK [a], fun a => outK [a])
def b_balerref07_Value (lf : Nat) (r : RT) (a : V) : M V := kln a fun b => lpA_balerref07_Value lf r lf (kcA_balerref07_Value lf r) a (ii 0) (ii 0) (ii 1) a b (ii 0)
theorem lqA_balerref07_Value {lf : Nat} {r : RT} (K : KT) : ∀ fu, lpA_balerref07_Value lf r fu ((fun a => K (.exit 0) (zp [3] [a]), fun a => K .ret (zp [2] [a]))) = fun
  a b c d e f g => loopK (cQ 201 (pb 7 23) lf r) sA_balerref07_Value fu (zp sA_balerref07_Value [a, b, c, d, e, f, g]) K
  | 0 => by funext a b c d e f g; kernel_rfl
  | fu + 1 => by
    have ih := lqA_balerref07_Value (lf := lf) (r := r) K fu
    funext a b c d e f g
    rw [lpA_balerref07_Value]
    simp only [ih]
    kernel_rfl
theorem kqA_balerref07_Value {lf : Nat} {r : RT} : kcA_balerref07_Value lf r = ((fun a => (tK 201 (pb 6 23) lf r) (.exit 0) (zp [3] [a]), fun a => (tK 201 (pb 6 23) lf r) .ret (zp [2] [a]))) := by kernel_rfl
theorem st_balerref07_Value {lf : Nat} {r : RT} {a : V} : evStep Tryz.prog gt lf r 201 #[a] = inside (b_balerref07_Value lf r a) := by 
  unfold b_balerref07_Value
  simp only [kqA_balerref07_Value, lqA_balerref07_Value]
  kernel_rfl

/- balerref12_First -/
def lpB_balerref12_First (lf : Nat) (r : RT) : Nat→(V→V→V→V→V→V→V→V→M V)→V→V→V→V→V→V→V→V→V→V→V→V→V→V→M V
  | 0, _, _, _, _, _, _, _, _, _, _, _, _, _, _, _ => .fail
  | fu + 1, k, a, b, c, d, e, f, g, h, i, j, l, m, n, o => kls o n fun p => ifV p (kix m o fun q => kld q fun s => ksb b (ii 1) fun q => kgr h q fun t => (fun q => ifV t
   (ksb b (ii 1) fun u => q u) (q h)) fun h => kml h d fun q => kqu q b fun u => keq u f fun v => (fun q => ifV v (kb1 3 1 (ii 0) fun u => kap 3 1 g u fun w => q w) (kb1
   3 1 (ii 15) fun u => kap 3 1 g u fun w => q w)) fun g => kad h s fun q => kad o (ii 1) fun h => lpB_balerref12_First lf r fu k a b c d e f g q i j l m n h) (k a b c d e g i j)
def sB_balerref12_First : List Nat := [0, 1, 4, 5, 6, 7, 8, 9, 14, 15, 16, 18, 19, 20]
def KBB_balerref12_First (lf : Nat) (r : RT) (k : (V→M V)) (again : V→V→V→V→V→V→V→M V) : (V→V→V→V→V→V→V→V→M V) := fun a b c d e f g h => kb1 115 1 f fun i => kap 115 1 e
  i fun j => kad h (ii 1) fun e => again a b c d j g e
def lpA_balerref12_First (lf : Nat) (r : RT) : Nat→(V→M V)→V→V→V→V→V→V→V→M V
  | 0, _, _, _, _, _, _, _, _ => .fail
  | fu + 1, k, a, b, c, d, e, f, g => kls g f fun h => ifV h (kln a fun i => lpB_balerref12_First lf r lf (KBB_balerref12_First lf r k (lpA_balerref12_First lf r fu k))
   a b c d e g nS (ii 0) f g h a i (ii 0)) (k e)
def sA_balerref12_First : List Nat := [0, 1, 4, 5, 6, 14, 15]
abbrev kcB_balerref12_First (lf : Nat) (r : RT) (fu : Nat) (k : (V→M V)) : (V→V→V→V→V→V→V→V→M V) := KBB_balerref12_First lf r k (lpA_balerref12_First lf r fu k)
def kcA_balerref12_First (lf : Nat) (r : RT) : (V→M V) := fun a => outK [a]
def b_balerref12_First (lf : Nat) (r : RT) (a b : V) : M V := kcl r 219 [b] fun c => lpA_balerref12_First lf r lf (kcA_balerref12_First lf r) a b nS c nS c (ii 0)
theorem lqB_balerref12_First {lf : Nat} {r : RT} (K : KT) : ∀ fu, lpB_balerref12_First lf r fu (fun a b c d e f g h => K (.exit 2) (zp [0, 1, 4, 5, 6, 8, 14, 15] [a, b,
  c, d, e, f, g, h])) = fun a b c d e f g h i j l m n o => loopK (cQ 202 (pb 18 47511) lf r) sB_balerref12_First fu (zp sB_balerref12_First [a, b, c, d, e, f, g, h, i, j, l, m, n, o]) K
  | 0 => by funext a b c d e f g h i j l m n o; kernel_rfl
  | fu + 1 => by
    have ih := lqB_balerref12_First (lf := lf) (r := r) K fu
    funext a b c d e f g h i j l m n o
    rw [lpB_balerref12_First]
    simp only [ih]
    kernel_rfl
theorem kqB_balerref12_First {lf : Nat} {r : RT} (K : KT) (fu : Nat) : KBB_balerref12_First lf r (fun a => K (.exit 0) (zp [6] [a])) (fun a b c d e f g => loopK (cQ 202
  (pb 7 23) lf r) sA_balerref12_First fu (zp sA_balerref12_First [a, b, c, d, e, f, g]) K) = (fun a b c d e f g h => (iK 202 (pb 7 23) (pb 10 371) sA_balerref12_First fu
  K lf r) (.exit 2) (zp [0, 1, 4, 5, 6, 8, 14, 15] [a, b, c, d, e, f, g, h])) := by kernel_rfl
theorem lqA_balerref12_First {lf : Nat} {r : RT} (K : KT) : ∀ fu, lpA_balerref12_First lf r fu (fun a => K (.exit 0) (zp [6] [a])) = fun a b c d e f g => loopK (cQ 202
  (pb 7 23) lf r) sA_balerref12_First fu (zp sA_balerref12_First [a, b, c, d, e, f, g]) K
  | 0 => by funext a b c d e f g; kernel_rfl
  | fu + 1 => by
    have ih := lqA_balerref12_First (lf := lf) (r := r) K fu
    funext a b c d e f g
    rw [lpA_balerref12_First]
    simp only [ih, kqB_balerref12_First, lqB_balerref12_First]
    kernel_rfl
theorem kqA_balerref12_First {lf : Nat} {r : RT} : kcA_balerref12_First lf r = (fun a => (tK 202 (pb 6 23) lf r) (.exit 0) (zp [6] [a])) := by kernel_rfl
theorem st_balerref12_First {lf : Nat} {r : RT} {a b : V} : evStep Tryz.prog gt lf r 202 #[a, b] = inside (b_balerref12_First lf r a b) := by 
  unfold b_balerref12_First
  simp only [kqA_balerref12_First, lqA_balerref12_First]
  kernel_rfl

/- balerref08_Counts -/
def lpA_balerref08_Counts (lf : Nat) (r : RT) : Nat→(V→M V)→V→V→V→V→V→V→M V
  | 0, _, _, _, _, _, _, _ => .fail
  | fu + 1, k, a, b, c, d, e, f => kls f e fun g => ifV g (kcl r 220 [a, f] fun h => kb1 3 1 h fun i => kap 3 1 d i fun j => kad f (ii 1) fun d => lpA_balerref08_Counts lf r fu k a b c j e d) (k d)
def sA_balerref08_Counts : List Nat := [0, 1, 4, 5, 7, 8]
def kcA_balerref08_Counts (lf : Nat) (r : RT) : (V→M V) := fun a => outK [a]
def b_balerref08_Counts (lf : Nat) (r : RT) (a b : V) : M V := lpA_balerref08_Counts lf r lf (kcA_balerref08_Counts lf r) a b nS nS b (ii 0)
theorem lqA_balerref08_Counts {lf : Nat} {r : RT} (K : KT) : ∀ fu, lpA_balerref08_Counts lf r fu (fun a => K (.exit 0) (zp [5] [a])) = fun a b c d e f => loopK (cQ 203
  (pb 6 11) lf r) sA_balerref08_Counts fu (zp sA_balerref08_Counts [a, b, c, d, e, f]) K
  | 0 => by funext a b c d e f; kernel_rfl
  | fu + 1 => by
    have ih := lqA_balerref08_Counts (lf := lf) (r := r) K fu
    funext a b c d e f
    rw [lpA_balerref08_Counts]
    simp only [ih]
    kernel_rfl
theorem kqA_balerref08_Counts {lf : Nat} {r : RT} : kcA_balerref08_Counts lf r = (fun a => (tK 203 (pb 5 11) lf r) (.exit 0) (zp [5] [a])) := by kernel_rfl
theorem st_balerref08_Counts {lf : Nat} {r : RT} {a b : V} : evStep Tryz.prog gt lf r 203 #[a, b] = inside (b_balerref08_Counts lf r a b) := by 
  unfold b_balerref08_Counts
  simp only [kqA_balerref08_Counts, lqA_balerref08_Counts]
  kernel_rfl

/- balerref08_Groups -/
def lpA_balerref08_Groups (lf : Nat) (r : RT) : Nat→(V→M V)→V→V→V→V→V→V→V→M V
  | 0, _, _, _, _, _, _, _, _ => .fail
  | fu + 1, k, a, b, c, d, e, f, g => kls g f fun h => ifV h (kix e g fun i => kld i fun j => kb1 3 1 j fun i => kap 3 1 d i fun l => kln l fun d => keq d (ii 50) fun i
   => ifV i (kb1 115 1 l fun d => kap 115 1 c d fun i => kad g (ii 1) fun c => lpA_balerref08_Groups lf r fu k a b i nS e f c) (kad g (ii 1) fun m => kln a fun n => keq
   m n fun o => ifV o (kb1 115 1 l fun d => kap 115 1 c d fun i => kad g (ii 1) fun c => lpA_balerref08_Groups lf r fu k a b i nS e f c) (kad g (ii 1) fun d =>
   lpA_balerref08_Groups lf r fu k a b c l e f d))) (k c)
def sA_balerref08_Groups : List Nat := [0, 2, 3, 4, 7, 8, 9]
def kcA_balerref08_Groups (lf : Nat) (r : RT) : (V→M V) := fun a => outK [a]
def b_balerref08_Groups (lf : Nat) (r : RT) (a : V) : M V := kln a fun b => lpA_balerref08_Groups lf r lf (kcA_balerref08_Groups lf r) a nS nS nS a b (ii 0)
theorem lqA_balerref08_Groups {lf : Nat} {r : RT} (K : KT) : ∀ fu, lpA_balerref08_Groups lf r fu (fun a => K (.exit 0) (zp [3] [a])) = fun a b c d e f g => loopK (cQ 204
  (pb 7 23) lf r) sA_balerref08_Groups fu (zp sA_balerref08_Groups [a, b, c, d, e, f, g]) K
  | 0 => by funext a b c d e f g; kernel_rfl
  | fu + 1 => by
    have ih := lqA_balerref08_Groups (lf := lf) (r := r) K fu
    funext a b c d e f g
    rw [lpA_balerref08_Groups]
    simp only [ih]
    kernel_rfl
theorem kqA_balerref08_Groups {lf : Nat} {r : RT} : kcA_balerref08_Groups lf r = (fun a => (tK 204 (pb 6 23) lf r) (.exit 0) (zp [3] [a])) := by kernel_rfl
theorem st_balerref08_Groups {lf : Nat} {r : RT} {a : V} : evStep Tryz.prog gt lf r 204 #[a] = inside (b_balerref08_Groups lf r a) := by 
  unfold b_balerref08_Groups
  simp only [kqA_balerref08_Groups, lqA_balerref08_Groups]
  kernel_rfl

/- balerref12_pick -/
def lpA_balerref12_pick (lf : Nat) (r : RT) : Nat→(V→M V)→V→V→V→V→V→V→V→M V
  | 0, _, _, _, _, _, _, _, _ => .fail
  | fu + 1, k, a, b, c, d, e, f, g => kls g f fun h => ifV h (kix e g fun i => kld i fun j => (timed (kcl r 221 [a, j] M.ret)).bind fun i => kix b d fun l => (timed (kld
   l M.ret)).bind fun m => (timed (kcl r 221 [a, m.1] M.ret)).bind fun n => kls i.1 n.1 fun o => chkT ((!(clash3 i.2 m.2) && true) && true) (ifV o (kad g (ii 1) fun d =>
   lpA_balerref12_pick lf r fu k a b c g e f d) (kad g (ii 1) fun i => lpA_balerref12_pick lf r fu k a b c d e f i))) (k d)
def sA_balerref12_pick : List Nat := [0, 1, 4, 5, 8, 9, 10]
def kcA_balerref12_pick (lf : Nat) (r : RT) : (V→M V) := fun a => outK [a]
def b_balerref12_pick (lf : Nat) (r : RT) (a b : V) : M V := kln b fun c => lpA_balerref12_pick lf r lf (kcA_balerref12_pick lf r) a b (ii 0) (ii 0) b c (ii 0)
theorem lqA_balerref12_pick {lf : Nat} {r : RT} (K : KT) : ∀ fu, lpA_balerref12_pick lf r fu (fun a => K (.exit 0) (zp [5] [a])) = fun a b c d e f g => loopK (cQ 205 (pb
  6 11) lf r) sA_balerref12_pick fu (zp sA_balerref12_pick [a, b, c, d, e, f, g]) K
  | 0 => by funext a b c d e f g; kernel_rfl
  | fu + 1 => by
    have ih := lqA_balerref12_pick (lf := lf) (r := r) K fu
    funext a b c d e f g
    rw [lpA_balerref12_pick]
    simp only [ih]
    kernel_rfl
theorem kqA_balerref12_pick {lf : Nat} {r : RT} : kcA_balerref12_pick lf r = (fun a => (tK 205 (pb 5 11) lf r) (.exit 0) (zp [5] [a])) := by kernel_rfl
theorem st_balerref12_pick {lf : Nat} {r : RT} {a b : V} : evStep Tryz.prog gt lf r 205 #[a, b] = inside (b_balerref12_pick lf r a b) := by 
  unfold b_balerref12_pick
  simp only [kqA_balerref12_pick, lqA_balerref12_pick]
  kernel_rfl

/- balerref09_Of -/
def lpA_balerref09_Of (lf : Nat) (r : RT) : Nat→(V→V→V→V→V→V→V→M V)→V→V→V→V→V→V→M V
  | 0, _, _, _, _, _, _, _ => .fail
  | fu + 1, k, a, b, c, d, e, f => kls f e fun g => ifV g (kix d f fun h => kld h fun i => keq i (ii 0) fun h => ifV h (kb1 3 1 (ii 1) fun i => kap 3 1 c i fun j => kad
   f (ii 1) fun c => lpA_balerref09_Of lf r fu k a b j d e c) (kb1 3 1 i fun j => kap 3 1 c j fun l => kad f (ii 1) fun c => lpA_balerref09_Of lf r fu k a b l d e c)) (k a b c d e f g)
def sA_balerref09_Of : List Nat := [0, 2, 3, 7, 8, 9]
def lpB_balerref09_Of (lf : Nat) (r : RT) : Nat→((M V) × (V→M V))→V→V→V→V→V→V→V→V→M V
  | 0, _, _, _, _, _, _, _, _, _ => .fail
  | fu + 1, k, a, b, c, d, e, f, g, h => kls h (ii 100) fun i => ifV i (kcl r 222 [c] fun j => kcl r 217 [j, (ii 1), (ii 20)] fun l => ifV l (k.2 j) (kcl r 223 [c] fun m
   => kad h (ii 1) fun c => lpB_balerref09_Of lf r fu k a b m d e f g c)) (k.1)
def sB_balerref09_Of : List Nat := [0, 2, 3, 7, 8, 9, 10, 20]
def kcB_balerref09_Of (lf : Nat) (r : RT) : (M V) × (V→M V) := (outK [nS], fun a => outK [a])
def kcA_balerref09_Of (lf : Nat) (r : RT) : (V→V→V→V→V→V→V→M V) := fun a b c d e f g => lpB_balerref09_Of lf r lf (kcB_balerref09_Of lf r) a b c d e f g (ii 0)
def b_balerref09_Of (lf : Nat) (r : RT) (a : V) : M V := kln a fun b => lpA_balerref09_Of lf r lf (kcA_balerref09_Of lf r) a nS nS a b (ii 0)
theorem lqA_balerref09_Of {lf : Nat} {r : RT} (K : KT) : ∀ fu, lpA_balerref09_Of lf r fu (fun a b c d e f g => K (.exit 0) (zp [0, 2, 3, 7, 8, 9, 10] [a, b, c, d, e, f,
  g])) = fun a b c d e f => loopK (cQ 206 (pb 6 11) lf r) sA_balerref09_Of fu (zp sA_balerref09_Of [a, b, c, d, e, f]) K
  | 0 => by funext a b c d e f; kernel_rfl
  | fu + 1 => by
    have ih := lqA_balerref09_Of (lf := lf) (r := r) K fu
    funext a b c d e f
    rw [lpA_balerref09_Of]
    simp only [ih]
    kernel_rfl
theorem lqB_balerref09_Of {lf : Nat} {r : RT} (K : KT) : ∀ fu, lpB_balerref09_Of lf r fu ((K (.exit 2) [], fun a => K .ret (zp [2] [a]))) = fun a b c d e f g h => loopK
  (cQ 206 (pb 7 23) lf r) sB_balerref09_Of fu (zp sB_balerref09_Of [a, b, c, d, e, f, g, h]) K
  | 0 => by funext a b c d e f g h; kernel_rfl
  | fu + 1 => by
    have ih := lqB_balerref09_Of (lf := lf) (r := r) K fu
    funext a b c d e f g h
    rw [lpB_balerref09_Of]
    simp only [ih]
    kernel_rfl
theorem kqB_balerref09_Of {lf : Nat} {r : RT} : kcB_balerref09_Of lf r = (((tK 206 (pb 6 23) lf r) (.exit 2) [], fun a => (tK 206 (pb 6 23) lf r) .ret (zp [2] [a]))) := by kernel_rfl
theorem kqA_balerref09_Of {lf : Nat} {r : RT} : kcA_balerref09_Of lf r = (fun a b c d e f g => (tK 206 (pb 5 11) lf r) (.exit 0) (zp [0, 2, 3, 7, 8, 9, 10] [a, b, c, d, e, f, g])) := by 
  unfold kcA_balerref09_Of
  simp only [kqB_balerref09_Of, lqB_balerref09_Of]
  kernel_rfl
theorem st_balerref09_Of {lf : Nat} {r : RT} {a : V} : evStep Tryz.prog gt lf r 206 #[a] = inside (b_balerref09_Of lf r a) := by 
  unfold b_balerref09_Of
  simp only [kqA_balerref09_Of, kqB_balerref09_Of, lqA_balerref09_Of, lqB_balerref09_Of]
  kernel_rfl

/- balerref10_next -/
def lpA_balerref10_next (lf : Nat) (r : RT) : Nat→(V→V→V→V→V→V→V→M V)→V→V→V→V→V→V→M V
  | 0, _, _, _, _, _, _, _ => .fail
  | fu + 1, k, a, b, c, d, e, f => kgq f (ii 0) fun g => ifV g (kit a f fun h => keq h (i1 49) fun i => kbn i e fun h => (fun l => ifV h (kad (Value.string { data :=
   #[49] }) d fun j => l j) (kad (Value.string { data := #[48] }) d fun j => l j)) fun d => ifV e (ksb f (ii 1) fun e => lpA_balerref10_next lf r fu k a b c d i e) (ksb
   f (ii 1) fun e => lpA_balerref10_next lf r fu k a b c d bF e)) (k a b c d e f g)
def sA_balerref10_next : List Nat := [0, 1, 4, 5, 6, 7]
def lpB_balerref10_next (lf : Nat) (r : RT) : Nat→(V→M V)→V→V→V→V→V→V→V→M V
  | 0, _, _, _, _, _, _, _, _ => .fail
  | fu + 1, k, a, b, c, d, e, f, g => klx d fun h => kls h b fun i => ifV i (kad d (Value.string { data := #[48] }) fun h => lpB_balerref10_next lf r fu k a b c h e f g) (k d)
def sB_balerref10_next : List Nat := [0, 1, 4, 5, 6, 7, 13]
def kcB_balerref10_next (lf : Nat) (r : RT) : (V→M V) := fun a => outK [a]
def kcA_balerref10_next (lf : Nat) (r : RT) : (V→V→V→V→V→V→V→M V) := fun a b c d e f g => lpB_balerref10_next lf r lf (kcB_balerref10_next lf r) a b c d e f g
def b_balerref10_next (lf : Nat) (r : RT) (a b : V) : M V := klx a fun c => ksb c (ii 1) fun d => lpA_balerref10_next lf r lf (kcA_balerref10_next lf r) a b
  (Value.string { data := #[] }) (Value.string { data := #[] }) bT d
theorem lqA_balerref10_next {lf : Nat} {r : RT} (K : KT) : ∀ fu, lpA_balerref10_next lf r fu (fun a b c d e f g => K (.exit 0) (zp [0, 1, 4, 5, 6, 7, 13] [a, b, c, d, e,
  f, g])) = fun a b c d e f => loopK (cQ 207 (pb 7 23) lf r) sA_balerref10_next fu (zp sA_balerref10_next [a, b, c, d, e, f]) K
  | 0 => by funext a b c d e f; kernel_rfl
  | fu + 1 => by
    have ih := lqA_balerref10_next (lf := lf) (r := r) K fu
    funext a b c d e f
    rw [lpA_balerref10_next]
    simp only [ih]
    kernel_rfl
theorem lqB_balerref10_next {lf : Nat} {r : RT} (K : KT) : ∀ fu, lpB_balerref10_next lf r fu (fun a => K (.exit 2) (zp [5] [a])) = fun a b c d e f g => loopK (cQ 207 (pb
  7 15) lf r) sB_balerref10_next fu (zp sB_balerref10_next [a, b, c, d, e, f, g]) K
  | 0 => by funext a b c d e f g; kernel_rfl
  | fu + 1 => by
    have ih := lqB_balerref10_next (lf := lf) (r := r) K fu
    funext a b c d e f g
    rw [lpB_balerref10_next]
    simp only [ih]
    kernel_rfl
theorem kqB_balerref10_next {lf : Nat} {r : RT} : kcB_balerref10_next lf r = (fun a => (tK 207 (pb 6 15) lf r) (.exit 2) (zp [5] [a])) := by kernel_rfl
theorem kqA_balerref10_next {lf : Nat} {r : RT} : kcA_balerref10_next lf r = (fun a b c d e f g => (tK 207 (pb 6 23) lf r) (.exit 0) (zp [0, 1, 4, 5, 6, 7, 13] [a, b, c, d, e, f, g])) := by 
  unfold kcA_balerref10_next
  simp only [kqB_balerref10_next, lqB_balerref10_next]
  kernel_rfl
theorem st_balerref10_next {lf : Nat} {r : RT} {a b : V} : evStep Tryz.prog gt lf r 207 #[a, b] = inside (b_balerref10_next lf r a b) := by 
  unfold b_balerref10_next
  simp only [kqA_balerref10_next, kqB_balerref10_next, lqA_balerref10_next, lqB_balerref10_next]
  kernel_rfl

/- slices_Clone_int_int -/
def b_slices_Clone_int_int (lf : Nat) (r : RT) (a : V) : M V := kse a nS fun b => ifV b (outK [nS]) (kbs 3 [] 0 [] fun c => kap 3 1 c a fun d => outK [d])
theorem st_slices_Clone_int_int {lf : Nat} {r : RT} {a : V} : evStep Tryz.prog gt lf r 208 #[a] = inside (b_slices_Clone_int_int lf r a) := by kernel_rfl

/- unbwt_Inverter_begins -/
def lpA_unbwt_Inverter_begins (lf : Nat) (r : RT) : Nat→(M V)→V→V→V→V→M V
  | 0, _, _, _, _, _ => .fail
  | fu + 1, k, a, b, c, d => kls d (ii 256) fun e => ifV e (kiv 256 c d fun f => knn a fun g => kfa 1 g fun h => kia 256 h d fun i => kst i b fun _ => kad b f fun g =>
   kad d (ii 1) fun b => lpA_unbwt_Inverter_begins lf r fu k a g c b) (k)
def sA_unbwt_Inverter_begins : List Nat := [0, 2, 8, 9]
def kcA_unbwt_Inverter_begins (lf : Nat) (r : RT) : (M V) := outK []
def b_unbwt_Inverter_begins (lf : Nat) (r : RT) (a : V) : M V := knn a fun b => kfa 1 b fun c => klg 256 c fun d => lpA_unbwt_Inverter_begins lf r lf (kcA_unbwt_Inverter_begins lf r) a (ii 0) d (ii 0)
theorem lqA_unbwt_Inverter_begins {lf : Nat} {r : RT} (K : KT) : ∀ fu, lpA_unbwt_Inverter_begins lf r fu (K (.exit 0) []) = fun a b c d => loopK (cQ 209 (pb 4 3) lf r)
  sA_unbwt_Inverter_begins fu (zp sA_unbwt_Inverter_begins [a, b, c, d]) K
  | 0 => by funext a b c d; kernel_rfl
  | fu + 1 => by
    have ih := lqA_unbwt_Inverter_begins (lf := lf) (r := r) K fu
    funext a b c d
    rw [lpA_unbwt_Inverter_begins]
    simp only [ih]
    kernel_rfl
theorem kqA_unbwt_Inverter_begins {lf : Nat} {r : RT} : kcA_unbwt_Inverter_begins lf r = ((tK 209 (pb 3 3) lf r) (.exit 0) []) := by kernel_rfl
theorem st_unbwt_Inverter_begins {lf : Nat} {r : RT} {a : V} : evStep Tryz.prog gt lf r 209 #[a] = inside (b_unbwt_Inverter_begins lf r a) := by 
  unfold b_unbwt_Inverter_begins
  simp only [kqA_unbwt_Inverter_begins, lqA_unbwt_Inverter_begins]
  kernel_rfl

/- crc_step -/
def b_crc_step (lf : Nat) (r : RT) (a b c : V) : M V := ksl b (i6 8) fun d => ksr b (i6 24) fun e => kcv .u8 e fun f => kxo f c fun g => knn a fun h => kia 256 h g fun i
  => kld i fun j => kxo d j fun l => outK [l]
theorem st_crc_step {lf : Nat} {r : RT} {a b c : V} : evStep Tryz.prog gt lf r 214 #[a, b, c] = inside (b_crc_step lf r a b c) := by kernel_rfl

/- bits_Reader_bit -/
def b_bits_Reader_bit (lf : Nat) (r : RT) (a b : V) : M V := knn a fun c => kfa 0 c fun d => kld d fun e => kqu b (ii 8) fun f => knn a fun g => kfa 1 g fun h => kld h
  fun i => ksb f i fun j => kit e j fun l => krm b (ii 8) fun c => ksb (ii 7) c fun d => ksr l d fun e => kan e (i1 1) fun f => kcv .u32 f fun g => outK [g]
theorem st_bits_Reader_bit {lf : Nat} {r : RT} {a b : V} : evStep Tryz.prog gt lf r 215 #[a, b] = inside (b_bits_Reader_bit lf r a b) := by kernel_rfl

/- block_Reader_step -/
def b_block_Reader_step (lf : Nat) (r : RT) (a b : V) : M V := knn a fun c => kfa 2 c fun d => kld d fun e => knt e fun f => ifV f (kcl r 228 [a, b] fun c => kne c (ii
  0) fun d => ifV d (outK [c]) (kcl r 233 [a] fun e => outK [e])) (knn a fun c => kfa 0 c fun d => kld d fun e => kpe e nP fun g => ifV g (kcl r 229 [a, b] fun c => kne
  c (ii 0) fun d => ifV d (outK [c]) (kcl r 233 [a] fun e => outK [e])) (knn a fun c => kfa 0 c fun d => kld d fun e => kcl r 230 [e] fun h => ifV h (knn a fun c => kfa
  5 c fun d => (timed (kld d M.ret)).bind fun e => knn a fun i => kfa 0 i fun j => (timed (kld j M.ret)).bind fun l => (timed (kcl r 231 [l.1] M.ret)).bind fun m =>
  (timed (kb1 5 1 m.1 M.ret)).bind fun n => (timed (kap 5 1 e.1 n.1 M.ret)).bind fun o => knn a fun p => kfa 5 p fun q => (timed (kst q o.1 M.ret)).bind fun s => chkT
  ((!(clash3 e.2 m.2) && true) && true) (kne (ii 0) (ii 0) fun c => ifV c (outK [(ii 0)]) (kcl r 233 [a] fun d => outK [d]))) (kcl r 232 [a, b] fun c => kne c (ii 0) fun
  d => ifV d (outK [c]) (kcl r 233 [a] fun e => outK [e]))))
theorem st_block_Reader_step {lf : Nat} {r : RT} {a b : V} : evStep Tryz.prog gt lf r 216 #[a, b] = inside (b_block_Reader_step lf r a b) := by kernel_rfl

/- balerref09_May -/
def lpA_balerref09_May (lf : Nat) (r : RT) : Nat→((M V) × (V→M V))→V→V→V→V→V→V→V→M V
  | 0, _, _, _, _, _, _, _, _ => .fail
  | fu + 1, k, a, b, c, d, e, f, g => kls g f fun h => ifV h (kix e g fun i => kld i fun j => kls j b fun i => ifV i (k.2 bF) (kgr j c fun l => ifV l (k.2 bF) (kad g (ii
   1) fun i => lpA_balerref09_May lf r fu k a b c d e f i))) (k.1)
def sA_balerref09_May : List Nat := [0, 1, 2, 6, 9, 10, 11]
def kcA_balerref09_May (lf : Nat) (r : RT) : (M V) × (V→M V) := (outK [bT], fun a => outK [a])
def b_balerref09_May (lf : Nat) (r : RT) (a b c : V) : M V := kln a fun d => lpA_balerref09_May lf r lf (kcA_balerref09_May lf r) a b c bF a d (ii 0)
theorem lqA_balerref09_May {lf : Nat} {r : RT} (K : KT) : ∀ fu, lpA_balerref09_May lf r fu ((K (.exit 0) [], fun a => K .ret (zp [6] [a]))) = fun a b c d e f g => loopK
  (cQ 217 (pb 5 5) lf r) sA_balerref09_May fu (zp sA_balerref09_May [a, b, c, d, e, f, g]) K
  | 0 => by funext a b c d e f g; kernel_rfl
  | fu + 1 => by
    have ih := lqA_balerref09_May (lf := lf) (r := r) K fu
    funext a b c d e f g
    rw [lpA_balerref09_May]
    simp only [ih]
    kernel_rfl
theorem kqA_balerref09_May {lf : Nat} {r : RT} : kcA_balerref09_May lf r = (((tK 217 (pb 4 5) lf r) (.exit 0) [], fun a => (tK 217 (pb 4 5) lf r) .ret (zp [6] [a]))) := by kernel_rfl
theorem st_balerref09_May {lf : Nat} {r : RT} {a b c : V} : evStep Tryz.prog gt lf r 217 #[a, b, c] = inside (b_balerref09_May lf r a b c) := by 
  unfold b_balerref09_May
  simp only [kqA_balerref09_May, lqA_balerref09_May]
  kernel_rfl

/- balerref09_Share -/
def lpB_balerref09_Share (lf : Nat) (r : RT) : Nat→(V→V→V→V→V→V→V→M V)→V→V→V→V→V→V→V→V→V→V→V→M V
  | 0, _, _, _, _, _, _, _, _, _, _, _, _ => .fail
  | fu + 1, k, a, b, c, d, e, f, g, h, i, j, l => kls l j fun m => ifV m (kml (ii 2) e fun n => kad l (ii 1) fun e => lpB_balerref09_Share lf r fu k a b c d n f g h i j e) (k a b c e f g h)
def sB_balerref09_Share : List Nat := [0, 2, 3, 5, 6, 7, 8, 9, 10, 14, 15]
def KBB_balerref09_Share (lf : Nat) (r : RT) (k : (V→M V)) (again : V→V→V→V→V→V→M V) : (V→V→V→V→V→V→V→M V) := fun a b c d e f g => kad c d fun h => kad g (ii 1) fun c => again a b h e f c
def lpA_balerref09_Share (lf : Nat) (r : RT) : Nat→(V→M V)→V→V→V→V→V→V→M V
  | 0, _, _, _, _, _, _, _ => .fail
  | fu + 1, k, a, b, c, d, e, f => kls f e fun g => ifV g (kix d f fun h => kld h fun i => ksb (ii 20) i fun h => lpB_balerref09_Share lf r lf (KBB_balerref09_Share lf r
   k (lpA_balerref09_Share lf r fu k)) a b c i (ii 1) d e f g h (ii 0)) (k c)
def sA_balerref09_Share : List Nat := [0, 2, 3, 7, 8, 9]
abbrev kcB_balerref09_Share (lf : Nat) (r : RT) (fu : Nat) (k : (V→M V)) : (V→V→V→V→V→V→V→M V) := KBB_balerref09_Share lf r k (lpA_balerref09_Share lf r fu k)
def kcA_balerref09_Share (lf : Nat) (r : RT) : (V→M V) := fun a => outK [a]
def b_balerref09_Share (lf : Nat) (r : RT) (a : V) : M V := kln a fun b => lpA_balerref09_Share lf r lf (kcA_balerref09_Share lf r) a (ii 0) (ii 0) a b (ii 0)
theorem lqB_balerref09_Share {lf : Nat} {r : RT} (K : KT) : ∀ fu, lpB_balerref09_Share lf r fu (fun a b c d e f g => K (.exit 2) (zp [0, 2, 3, 6, 7, 8, 9] [a, b, c, d,
  e, f, g])) = fun a b c d e f g h i j l => loopK (cQ 218 (pb 16 11467) lf r) sB_balerref09_Share fu (zp sB_balerref09_Share [a, b, c, d, e, f, g, h, i, j, l]) K
  | 0 => by funext a b c d e f g h i j l; kernel_rfl
  | fu + 1 => by
    have ih := lqB_balerref09_Share (lf := lf) (r := r) K fu
    funext a b c d e f g h i j l
    rw [lpB_balerref09_Share]
    simp only [ih]
    kernel_rfl
theorem kqB_balerref09_Share {lf : Nat} {r : RT} (K : KT) (fu : Nat) : KBB_balerref09_Share lf r (fun a => K (.exit 0) (zp [3] [a])) (fun a b c d e f => loopK (cQ 218
  (pb 6 11) lf r) sA_balerref09_Share fu (zp sA_balerref09_Share [a, b, c, d, e, f]) K) = (fun a b c d e f g => (iK 218 (pb 6 11) (pb 9 179) sA_balerref09_Share fu K lf
  r) (.exit 2) (zp [0, 2, 3, 6, 7, 8, 9] [a, b, c, d, e, f, g])) := by kernel_rfl
theorem lqA_balerref09_Share {lf : Nat} {r : RT} (K : KT) : ∀ fu, lpA_balerref09_Share lf r fu (fun a => K (.exit 0) (zp [3] [a])) = fun a b c d e f => loopK (cQ 218 (pb
  6 11) lf r) sA_balerref09_Share fu (zp sA_balerref09_Share [a, b, c, d, e, f]) K
  | 0 => by funext a b c d e f; kernel_rfl
  | fu + 1 => by
    have ih := lqA_balerref09_Share (lf := lf) (r := r) K fu
    funext a b c d e f
    rw [lpA_balerref09_Share]
    simp only [ih, kqB_balerref09_Share, lqB_balerref09_Share]
    kernel_rfl
theorem kqA_balerref09_Share {lf : Nat} {r : RT} : kcA_balerref09_Share lf r = (fun a => (tK 218 (pb 5 11) lf r) (.exit 0) (zp [3] [a])) := by kernel_rfl
theorem st_balerref09_Share {lf : Nat} {r : RT} {a : V} : evStep Tryz.prog gt lf r 218 #[a] = inside (b_balerref09_Share lf r a) := by 
  unfold b_balerref09_Share
  simp only [kqA_balerref09_Share, lqA_balerref09_Share]
  kernel_rfl

/- balerref12_Number -/
def b_balerref12_Number (lf : Nat) (r : RT) (a : V) : M V := kls a (ii 200) fun b => ifV b (outK [(ii 2)]) (kls a (ii 600) fun c => ifV c (outK [(ii 3)]) (kls a (ii
  1200) fun d => ifV d (outK [(ii 4)]) (kls a (ii 2400) fun e => ifV e (outK [(ii 5)]) (outK [(ii 6)]))))
theorem st_balerref12_Number {lf : Nat} {r : RT} {a : V} : evStep Tryz.prog gt lf r 219 #[a] = inside (b_balerref12_Number lf r a) := by kernel_rfl

/- balerref08_count -/
def lpA_balerref08_count (lf : Nat) (r : RT) : Nat→(V→M V)→V→V→V→V→V→V→V→M V
  | 0, _, _, _, _, _, _, _, _ => .fail
  | fu + 1, k, a, b, c, d, e, f, g => kls g f fun h => ifV h (kix e g fun i => kld i fun j => keq b j fun i => ifV i (kad d (ii 1) fun l => kad g (ii 1) fun d =>
   lpA_balerref08_count lf r fu k a b c l e f d) (kad g (ii 1) fun l => lpA_balerref08_count lf r fu k a b c d e f l)) (k d)
def sA_balerref08_count : List Nat := [0, 1, 4, 5, 8, 9, 10]
def kcA_balerref08_count (lf : Nat) (r : RT) : (V→M V) := fun a => outK [a]
def b_balerref08_count (lf : Nat) (r : RT) (a b : V) : M V := kln a fun c => lpA_balerref08_count lf r lf (kcA_balerref08_count lf r) a b (ii 0) (ii 0) a c (ii 0)
theorem lqA_balerref08_count {lf : Nat} {r : RT} (K : KT) : ∀ fu, lpA_balerref08_count lf r fu (fun a => K (.exit 0) (zp [5] [a])) = fun a b c d e f g => loopK (cQ 220
  (pb 6 11) lf r) sA_balerref08_count fu (zp sA_balerref08_count [a, b, c, d, e, f, g]) K
  | 0 => by funext a b c d e f g; kernel_rfl
  | fu + 1 => by
    have ih := lqA_balerref08_count (lf := lf) (r := r) K fu
    funext a b c d e f g
    rw [lpA_balerref08_count]
    simp only [ih]
    kernel_rfl
theorem kqA_balerref08_count {lf : Nat} {r : RT} : kcA_balerref08_count lf r = (fun a => (tK 220 (pb 5 11) lf r) (.exit 0) (zp [5] [a])) := by kernel_rfl
theorem st_balerref08_count {lf : Nat} {r : RT} {a b : V} : evStep Tryz.prog gt lf r 220 #[a, b] = inside (b_balerref08_count lf r a b) := by 
  unfold b_balerref08_count
  simp only [kqA_balerref08_count, lqA_balerref08_count]
  kernel_rfl

/- balerref08_Cost -/
def lpB_balerref08_Cost (lf : Nat) (r : RT) : Nat→(V→V→V→V→V→V→V→M V)→V→V→V→V→V→V→V→V→V→V→V→V→M V
  | 0, _, _, _, _, _, _, _, _, _, _, _, _, _ => .fail
  | fu + 1, k, a, b, c, d, e, f, g, h, i, j, l, m => kls m l fun n => ifV n (kad d f fun o => kcl r 234 [o] fun p => kad m (ii 1) fun d => lpB_balerref08_Cost lf r fu k
   a b c p e f g h i j l d) (k a b c d g h i)
def sB_balerref08_Cost : List Nat := [0, 1, 4, 5, 6, 7, 8, 9, 10, 11, 17, 18]
def KBB_balerref08_Cost (lf : Nat) (r : RT) (k : (V→M V)) (again : V→V→V→V→V→V→V→M V) : (V→V→V→V→V→V→V→M V) := fun a b c d e f g => kad g (ii 1) fun h => again a b c d e f h
def lpA_balerref08_Cost (lf : Nat) (r : RT) : Nat→(V→M V)→V→V→V→V→V→V→V→M V
  | 0, _, _, _, _, _, _, _, _ => .fail
  | fu + 1, k, a, b, c, d, e, f, g => kls g f fun h => ifV h (kix e g fun i => kld i fun j => kcl r 220 [a, g] fun i => lpB_balerref08_Cost lf r lf (KBB_balerref08_Cost
   lf r k (lpA_balerref08_Cost lf r fu k)) a b c d g j e f g h i (ii 0)) (k d)
def sA_balerref08_Cost : List Nat := [0, 1, 4, 5, 8, 9, 10]
abbrev kcB_balerref08_Cost (lf : Nat) (r : RT) (fu : Nat) (k : (V→M V)) : (V→V→V→V→V→V→V→M V) := KBB_balerref08_Cost lf r k (lpA_balerref08_Cost lf r fu k)
def kcA_balerref08_Cost (lf : Nat) (r : RT) : (V→M V) := fun a => outK [a]
def b_balerref08_Cost (lf : Nat) (r : RT) (a b : V) : M V := kln b fun c => lpA_balerref08_Cost lf r lf (kcA_balerref08_Cost lf r) a b (ii 0) (ii 0) b c (ii 0)
theorem lqB_balerref08_Cost {lf : Nat} {r : RT} (K : KT) : ∀ fu, lpB_balerref08_Cost lf r fu (fun a b c d e f g => K (.exit 2) (zp [0, 1, 4, 5, 8, 9, 10] [a, b, c, d, e,
  f, g])) = fun a b c d e f g h i j l m => loopK (cQ 221 (pb 14 3275) lf r) sB_balerref08_Cost fu (zp sB_balerref08_Cost [a, b, c, d, e, f, g, h, i, j, l, m]) K
  | 0 => by funext a b c d e f g h i j l m; kernel_rfl
  | fu + 1 => by
    have ih := lqB_balerref08_Cost (lf := lf) (r := r) K fu
    funext a b c d e f g h i j l m
    rw [lpB_balerref08_Cost]
    simp only [ih]
    kernel_rfl
theorem kqB_balerref08_Cost {lf : Nat} {r : RT} (K : KT) (fu : Nat) : KBB_balerref08_Cost lf r (fun a => K (.exit 0) (zp [5] [a])) (fun a b c d e f g => loopK (cQ 221
  (pb 6 11) lf r) sA_balerref08_Cost fu (zp sA_balerref08_Cost [a, b, c, d, e, f, g]) K) = (fun a b c d e f g => (iK 221 (pb 6 11) (pb 7 51) sA_balerref08_Cost fu K lf
  r) (.exit 2) (zp [0, 1, 4, 5, 8, 9, 10] [a, b, c, d, e, f, g])) := by kernel_rfl
theorem lqA_balerref08_Cost {lf : Nat} {r : RT} (K : KT) : ∀ fu, lpA_balerref08_Cost lf r fu (fun a => K (.exit 0) (zp [5] [a])) = fun a b c d e f g => loopK (cQ 221 (pb
  6 11) lf r) sA_balerref08_Cost fu (zp sA_balerref08_Cost [a, b, c, d, e, f, g]) K
  | 0 => by funext a b c d e f g; kernel_rfl
  | fu + 1 => by
    have ih := lqA_balerref08_Cost (lf := lf) (r := r) K fu
    funext a b c d e f g
    rw [lpA_balerref08_Cost]
    simp only [ih, kqB_balerref08_Cost, lqB_balerref08_Cost]
    kernel_rfl
theorem kqA_balerref08_Cost {lf : Nat} {r : RT} : kcA_balerref08_Cost lf r = (fun a => (tK 221 (pb 5 11) lf r) (.exit 0) (zp [5] [a])) := by kernel_rfl
theorem st_balerref08_Cost {lf : Nat} {r : RT} {a b : V} : evStep Tryz.prog gt lf r 221 #[a, b] = inside (b_balerref08_Cost lf r a b) := by 
  unfold b_balerref08_Cost
  simp only [kqA_balerref08_Cost, lqA_balerref08_Cost]
  kernel_rfl

/- balerref09_Depths -/
def lpA_balerref09_Depths (lf : Nat) (r : RT) : Nat→(V→V→V→V→V→V→V→V→M V)→V→V→V→V→V→V→V→M V
  | 0, _, _, _, _, _, _, _, _ => .fail
  | fu + 1, k, a, b, c, d, e, f, g => kls g f fun h => ifV h (kix e g fun i => kld i fun j => kb1 3 1 g fun i => kbd z299 [(0, 1, j), (1, 1, g), (2, 1, i)] fun l => kb1
   299 3 l fun m => kap 299 3 d m fun n => kad g (ii 1) fun d => lpA_balerref09_Depths lf r fu k a b c n e f d) (k a b c d e f g h)
def sA_balerref09_Depths : List Nat := [0, 2, 3, 4, 18, 19, 20]
def lpC_balerref09_Depths (lf : Nat) (r : RT) : Nat→(V→V→V→V→V→V→V→V→V→V→V→V→V→M V)→V→V→V→V→V→V→V→V→V→V→V→V→V→V→V→V→V→V→V→M V
  | 0, _, _, _, _, _, _, _, _, _, _, _, _, _, _, _, _, _, _, _, _ => .fail
  | fu + 1, k, a, b, c, d, e, f, g, h, i, j, l, m, n, o, p, q, s, t, u => kls u t fun v => ifV v (kix s u fun w => kld w fun x => kix e x fun w => kld w fun y => kad y
   (ii 1) fun z => kix e x fun A => kst A z fun _ => kad u (ii 1) fun w => lpC_balerref09_Depths lf r fu k a b c d e f g h i j l m n o p q s t w) (k a b c d e f h j l m n o p)
def sC_balerref09_Depths : List Nat := [0, 2, 3, 4, 7, 8, 9, 10, 11, 12, 13, 18, 19, 20, 21, 39, 66, 67, 68]
def KBC_balerref09_Depths (lf : Nat) (r : RT) (k : (V→M V)) (again : V→V→V→V→V→V→V→V→V→V→M V) : (V→V→V→V→V→V→V→V→V→V→V→V→V→M V) := fun a b c d e f g h i j l m n => kfa 0
  g fun o => kld o fun p => kfa 0 h fun q => kld q fun s => kad p s fun t => kbd z299 [(0, 1, t), (1, 1, f), (2, 1, i)] fun u => kb1 299 3 u fun v => kap 299 3 d v fun w
  => kad f (ii 1) fun d => again a b c w e d j l m n
def lpB_balerref09_Depths (lf : Nat) (r : RT) : Nat→(V→M V)→V→V→V→V→V→V→V→V→V→V→M V
  | 0, _, _, _, _, _, _, _, _, _, _, _ => .fail
  | fu + 1, k, a, b, c, d, e, f, g, h, i, j => kln d fun l => kgr l (ii 1) fun m => ifV m (kcl r 235 [d] fun l => kiy 3 d l fun n => klg 3 n fun o => kal 299 z299 fun p
   => ksg 3 p o fun _ => kcl r 236 [d, l] fun n => kcl r 235 [n] fun d => kiy 3 n d fun o => klg 3 o fun q => kal 299 z299 fun s => ksg 3 s q fun _ => kcl r 236 [n, d]
   fun o => kfa 2 p fun n => kld n fun q => kap 3 1 nS q fun t => kfa 2 s fun n => kld n fun q => kap 3 1 t q fun u => kln u fun n => lpC_balerref09_Depths lf r lf
   (KBC_balerref09_Depths lf r k (lpB_balerref09_Depths lf r fu k)) a b c o e f l p d s u g h i j m u n (ii 0)) (k e)
def sB_balerref09_Depths : List Nat := [0, 2, 3, 4, 7, 8, 18, 19, 20, 21]
abbrev kcC_balerref09_Depths (lf : Nat) (r : RT) (fu : Nat) (k : (V→M V)) : (V→V→V→V→V→V→V→V→V→V→V→V→V→M V) := KBC_balerref09_Depths lf r k (lpB_balerref09_Depths lf r fu k)
def kcB_balerref09_Depths (lf : Nat) (r : RT) : (V→M V) := fun a => outK [a]
def kcA_balerref09_Depths (lf : Nat) (r : RT) : (V→V→V→V→V→V→V→V→M V) := fun a b c d e f g h => kmk 3 [(ii 0)] c c fun i => lpB_balerref09_Depths lf r lf (kcB_balerref09_Depths lf r) a b c d i c e f g h
def b_balerref09_Depths (lf : Nat) (r : RT) (a : V) : M V := kln a fun b => kln a fun c => lpA_balerref09_Depths lf r lf (kcA_balerref09_Depths lf r) a nS b nS a c (ii 0)
theorem lqA_balerref09_Depths {lf : Nat} {r : RT} (K : KT) : ∀ fu, lpA_balerref09_Depths lf r fu (fun a b c d e f g h => K (.exit 0) (zp [0, 2, 3, 4, 18, 19, 20, 21] [a,
  b, c, d, e, f, g, h])) = fun a b c d e f g => loopK (cQ 222 (pb 7 23) lf r) sA_balerref09_Depths fu (zp sA_balerref09_Depths [a, b, c, d, e, f, g]) K
  | 0 => by funext a b c d e f g; kernel_rfl
  | fu + 1 => by
    have ih := lqA_balerref09_Depths (lf := lf) (r := r) K fu
    funext a b c d e f g
    rw [lpA_balerref09_Depths]
    simp only [ih]
    kernel_rfl
theorem lqC_balerref09_Depths {lf : Nat} {r : RT} (K : KT) : ∀ fu, lpC_balerref09_Depths lf r fu (fun a b c d e f g h i j l m n => K (.exit 4) (zp [0, 2, 3, 4, 7, 8, 10,
  12, 13, 18, 19, 20, 21] [a, b, c, d, e, f, g, h, i, j, l, m, n])) = fun a b c d e f g h i j l m n o p q s t u => loopK (cQ 222 (pb 24 3144255) lf r)
  sC_balerref09_Depths fu (zp sC_balerref09_Depths [a, b, c, d, e, f, g, h, i, j, l, m, n, o, p, q, s, t, u]) K
  | 0 => by funext a b c d e f g h i j l m n o p q s t u; kernel_rfl
  | fu + 1 => by
    have ih := lqC_balerref09_Depths (lf := lf) (r := r) K fu
    funext a b c d e f g h i j l m n o p q s t u
    rw [lpC_balerref09_Depths]
    simp only [ih]
    kernel_rfl
theorem kqC_balerref09_Depths {lf : Nat} {r : RT} (K : KT) (fu : Nat) : KBC_balerref09_Depths lf r (fun a => K (.exit 2) (zp [7] [a])) (fun a b c d e f g h i j => loopK
  (cQ 222 (pb 9 63) lf r) sB_balerref09_Depths fu (zp sB_balerref09_Depths [a, b, c, d, e, f, g, h, i, j]) K) = (fun a b c d e f g h i j l m n => (iK 222 (pb 9 63) (pb
  14 6141) sB_balerref09_Depths fu K lf r) (.exit 4) (zp [0, 2, 3, 4, 7, 8, 10, 12, 13, 18, 19, 20, 21] [a, b, c, d, e, f, g, h, i, j, l, m, n])) := by kernel_rfl
theorem lqB_balerref09_Depths {lf : Nat} {r : RT} (K : KT) : ∀ fu, lpB_balerref09_Depths lf r fu (fun a => K (.exit 2) (zp [7] [a])) = fun a b c d e f g h i j => loopK
  (cQ 222 (pb 9 63) lf r) sB_balerref09_Depths fu (zp sB_balerref09_Depths [a, b, c, d, e, f, g, h, i, j]) K
  | 0 => by funext a b c d e f g h i j; kernel_rfl
  | fu + 1 => by
    have ih := lqB_balerref09_Depths (lf := lf) (r := r) K fu
    funext a b c d e f g h i j
    rw [lpB_balerref09_Depths]
    simp only [ih, kqC_balerref09_Depths, lqC_balerref09_Depths]
    kernel_rfl
theorem kqB_balerref09_Depths {lf : Nat} {r : RT} : kcB_balerref09_Depths lf r = (fun a => (tK 222 (pb 8 63) lf r) (.exit 2) (zp [7] [a])) := by kernel_rfl
theorem kqA_balerref09_Depths {lf : Nat} {r : RT} : kcA_balerref09_Depths lf r = (fun a b c d e f g h => (tK 222 (pb 6 23) lf r) (.exit 0) (zp [0, 2, 3, 4, 18, 19, 20, 21] [a, b, c, d, e, f, g, h])) := by 
  unfold kcA_balerref09_Depths
  simp only [kqB_balerref09_Depths, lqB_balerref09_Depths]
  kernel_rfl
theorem st_balerref09_Depths {lf : Nat} {r : RT} {a : V} : evStep Tryz.prog gt lf r 222 #[a] = inside (b_balerref09_Depths lf r a) := by 
  unfold b_balerref09_Depths
  simp only [kqA_balerref09_Depths, kqB_balerref09_Depths, lqA_balerref09_Depths, lqB_balerref09_Depths]
  kernel_rfl

/- balerref09_Halved -/
def lpA_balerref09_Halved (lf : Nat) (r : RT) : Nat→(V→M V)→V→V→V→V→V→V→M V
  | 0, _, _, _, _, _, _, _ => .fail
  | fu + 1, k, a, b, c, d, e, f => kls f e fun g => ifV g (kix d f fun h => kld h fun i => kls i (ii 0) fun h => (fun l => ifV h (l (ii 0)) (l i)) fun i => kqu i (ii 2)
   fun j => kad j (ii 1) fun l => kb1 3 1 l fun m => kap 3 1 c m fun n => kad f (ii 1) fun c => lpA_balerref09_Halved lf r fu k a b n d e c) (k c)
def sA_balerref09_Halved : List Nat := [0, 2, 3, 6, 7, 8]
def kcA_balerref09_Halved (lf : Nat) (r : RT) : (V→M V) := fun a => outK [a]
def b_balerref09_Halved (lf : Nat) (r : RT) (a : V) : M V := kln a fun b => lpA_balerref09_Halved lf r lf (kcA_balerref09_Halved lf r) a nS nS a b (ii 0)
theorem lqA_balerref09_Halved {lf : Nat} {r : RT} (K : KT) : ∀ fu, lpA_balerref09_Halved lf r fu (fun a => K (.exit 0) (zp [3] [a])) = fun a b c d e f => loopK (cQ 223
  (pb 6 11) lf r) sA_balerref09_Halved fu (zp sA_balerref09_Halved [a, b, c, d, e, f]) K
  | 0 => by funext a b c d e f; kernel_rfl
  | fu + 1 => by
    have ih := lqA_balerref09_Halved (lf := lf) (r := r) K fu
    funext a b c d e f
    rw [lpA_balerref09_Halved]
    simp only [ih]
    kernel_rfl
theorem kqA_balerref09_Halved {lf : Nat} {r : RT} : kcA_balerref09_Halved lf r = (fun a => (tK 223 (pb 5 11) lf r) (.exit 0) (zp [3] [a])) := by kernel_rfl
theorem st_balerref09_Halved {lf : Nat} {r : RT} {a : V} : evStep Tryz.prog gt lf r 223 #[a] = inside (b_balerref09_Halved lf r a) := by 
  unfold b_balerref09_Halved
  simp only [kqA_balerref09_Halved, lqA_balerref09_Halved]
  kernel_rfl

/- block_Reader_begin -/
def b_block_Reader_begin (lf : Nat) (r : RT) (a b : V) : M V := kcl r 98 [b] fun c => kls c (ii 57) fun d => ifV d (outK [(ii 3)]) (kcl r 188 [b, (ii 32)] fun c => kex c
  0 fun e => kex c 1 fun f => kcl r 188 [b, (ii 1)] fun c => kex c 0 fun f => kex c 1 fun g => kcl r 188 [b, (ii 24)] fun c => kex c 0 fun g => kex c 1 fun h => knn a
  fun c => kfa 2 c fun h => kst h bT fun _ => knn a fun c => kfa 3 c fun h => kst h e fun _ => kcv .i64 g fun c => knn a fun h => kfa 4 h fun i => kst i c fun _ => keq f
  (i3 1) fun c => ifV c (outK [(ii 25)]) (outK [(ii 0)]))
theorem st_block_Reader_begin {lf : Nat} {r : RT} {a b : V} : evStep Tryz.prog gt lf r 228 #[a, b] = inside (b_block_Reader_begin lf r a b) := by kernel_rfl

/- block_Reader_symbols -/
def b_block_Reader_symbols (lf : Nat) (r : RT) (a b : V) : M V := kcl r 238 [b] fun c => kex c 0 fun d => kex c 1 fun e => keq e (ii 0) fun c => ifV c (knn a fun f =>
  kfa 1 f fun g => kld g fun h => kcl r 239 [d, h] fun i => knn a fun j => kfa 0 j fun l => kst l i fun _ => outK [e]) (outK [e])
theorem st_block_Reader_symbols {lf : Nat} {r : RT} {a b : V} : evStep Tryz.prog gt lf r 229 #[a, b] = inside (b_block_Reader_symbols lf r a b) := by kernel_rfl

/- block_row_waits -/
def b_block_row_waits (lf : Nat) (r : RT) (a : V) : M V := kpn a nP fun b => ifV b (knn a fun c => kfa 3 c fun d => kld d fun e => kgr e (ii 0) fun f => ifV f (outK
  [bT]) (knn a fun g => kfa 4 g fun h => kld h fun i => kgr i (ii 0) fun j => outK [j])) (outK [bF])
theorem st_block_row_waits {lf : Nat} {r : RT} {a : V} : evStep Tryz.prog gt lf r 230 #[a] = inside (b_block_row_waits lf r a) := by kernel_rfl

/- block_row_next -/
def b_block_row_next (lf : Nat) (r : RT) (a : V) : M V := knn a fun b => kfa 3 b fun c => kld c fun d => kgr d (ii 0) fun e => (fun b => ifV e (knn a fun c => kfa 3 c
  fun d => kld d fun f => ksb f (ii 1) fun g => knn a fun h => kfa 3 h fun i => kst i g fun _ => b (ii 0)) (knn a fun c => kfa 4 c fun d => kld d fun f => knn a fun c =>
  kfa 4 c fun d => kst d (ii 0) fun _ => b f)) fun b => knn a fun c => kfa 2 c fun d => kld d fun f => kcl r 240 [f, b] fun g => kex g 0 fun h => kex g 1 fun i => outK [h]
theorem st_block_row_next {lf : Nat} {r : RT} {a : V} : evStep Tryz.prog gt lf r 231 #[a] = inside (b_block_row_next lf r a) := by kernel_rfl

/- block_Reader_symbol -/
def b_block_Reader_symbol (lf : Nat) (r : RT) (a b : V) : M V := knn a fun c => kfa 0 c fun d => kld d fun e => knn e fun f => kfa 0 f fun g => kld g fun h => kcl r 241
  [h, b] fun i => kex i 0 fun j => kex i 1 fun l => kne l (ii 0) fun c => ifV c (outK [l]) (kls j (ii 0) fun d => ifV d (outK [l]) (knn a fun c => kfa 0 c fun e => kld e
  fun f => kcl r 242 [f, j] fun g => outK [g]))
theorem st_block_Reader_symbol {lf : Nat} {r : RT} {a b : V} : evStep Tryz.prog gt lf r 232 #[a, b] = inside (b_block_Reader_symbol lf r a b) := by kernel_rfl

/- block_Reader_end -/
def b_block_Reader_end (lf : Nat) (r : RT) (a : V) : M V := knn a fun b => kfa 0 b fun c => kld c fun d => kpe d nP fun e => ifV e (outK [(ii 0)]) (knn a fun f => kfa 0
  f fun g => kld g fun h => knn h fun i => kfa 0 i fun j => kld j fun l => kcl r 243 [l] fun m => knt m fun n => ifV n (outK [(ii 0)]) (knn a fun o => kfa 0 o fun p =>
  kld p fun q => kcl r 230 [q] fun s => ifV s (outK [(ii 0)]) (knn a fun b => kfa 4 b fun c => kld c fun d => knn a fun e => kfa 5 e fun f => kld f fun g => kln g fun h
  => kgq d h fun i => ifV i (outK [(ii 23)]) (knn a fun b => kfa 6 b fun c => kst c bT fun _ => outK [(ii 0)]))))
theorem st_block_Reader_end {lf : Nat} {r : RT} {a : V} : evStep Tryz.prog gt lf r 233 #[a] = inside (b_block_Reader_end lf r a) := by kernel_rfl

/- balerref08_most -/
def b_balerref08_most (lf : Nat) (r : RT) (a : V) : M V := kgr a (ii 1099511627776) fun b => ifV b (outK [(ii 1099511627776)]) (outK [a])
theorem st_balerref08_most {lf : Nat} {r : RT} {a : V} : evStep Tryz.prog gt lf r 234 #[a] = inside (b_balerref08_most lf r a) := by kernel_rfl

/- balerref09_least -/
def lpA_balerref09_least (lf : Nat) (r : RT) : Nat→(V→M V)→V→V→V→V→V→V→M V
  | 0, _, _, _, _, _, _, _ => .fail
  | fu + 1, k, a, b, c, d, e, f => kls f e fun g => ifV g (kiy 3 d f fun h => klg 3 h fun i => kal 299 z299 fun j => ksg 3 j i fun _ => klg 3 j fun h => kiy 3 a c fun i
   => klg 3 i fun l => kcl r 244 [h, l] fun m => ifV m (kad f (ii 1) fun c => lpA_balerref09_least lf r fu k a b f d e c) (kad f (ii 1) fun h => lpA_balerref09_least lf r fu k a b c d e h)) (k c)
def sA_balerref09_least : List Nat := [0, 2, 3, 6, 7, 8]
def kcA_balerref09_least (lf : Nat) (r : RT) : (V→M V) := fun a => outK [a]
def b_balerref09_least (lf : Nat) (r : RT) (a : V) : M V := kln a fun b => lpA_balerref09_least lf r lf (kcA_balerref09_least lf r) a (ii 0) (ii 0) a b (ii 0)
theorem lqA_balerref09_least {lf : Nat} {r : RT} (K : KT) : ∀ fu, lpA_balerref09_least lf r fu (fun a => K (.exit 0) (zp [3] [a])) = fun a b c d e f => loopK (cQ 235 (pb
  6 11) lf r) sA_balerref09_least fu (zp sA_balerref09_least [a, b, c, d, e, f]) K
  | 0 => by funext a b c d e f; kernel_rfl
  | fu + 1 => by
    have ih := lqA_balerref09_least (lf := lf) (r := r) K fu
    funext a b c d e f
    rw [lpA_balerref09_least]
    simp only [ih]
    kernel_rfl
theorem kqA_balerref09_least {lf : Nat} {r : RT} : kcA_balerref09_least lf r = (fun a => (tK 235 (pb 5 11) lf r) (.exit 0) (zp [3] [a])) := by kernel_rfl
theorem st_balerref09_least {lf : Nat} {r : RT} {a : V} : evStep Tryz.prog gt lf r 235 #[a] = inside (b_balerref09_least lf r a) := by 
  unfold b_balerref09_least
  simp only [kqA_balerref09_least, lqA_balerref09_least]
  kernel_rfl

/- balerref09_without -/
def lpA_balerref09_without (lf : Nat) (r : RT) : Nat→(V→M V)→V→V→V→V→V→V→V→M V
  | 0, _, _, _, _, _, _, _, _ => .fail
  | fu + 1, k, a, b, c, d, e, f, g => kls g f fun h => ifV h (kiy 3 e g fun i => klg 3 i fun j => kal 299 z299 fun l => ksg 3 l j fun _ => kne g b fun i => ifV i (klg 3
   l fun j => kb1 299 3 j fun m => kap 299 3 d m fun n => kad g (ii 1) fun d => lpA_balerref09_without lf r fu k a b c n e f d) (kad g (ii 1) fun j => lpA_balerref09_without lf r fu k a b c d e f j)) (k d)
def sA_balerref09_without : List Nat := [0, 1, 4, 5, 8, 9, 10]
def kcA_balerref09_without (lf : Nat) (r : RT) : (V→M V) := fun a => outK [a]
def b_balerref09_without (lf : Nat) (r : RT) (a b : V) : M V := kln a fun c => lpA_balerref09_without lf r lf (kcA_balerref09_without lf r) a b nS nS a c (ii 0)
theorem lqA_balerref09_without {lf : Nat} {r : RT} (K : KT) : ∀ fu, lpA_balerref09_without lf r fu (fun a => K (.exit 0) (zp [5] [a])) = fun a b c d e f g => loopK (cQ
  236 (pb 6 11) lf r) sA_balerref09_without fu (zp sA_balerref09_without [a, b, c, d, e, f, g]) K
  | 0 => by funext a b c d e f g; kernel_rfl
  | fu + 1 => by
    have ih := lqA_balerref09_without (lf := lf) (r := r) K fu
    funext a b c d e f g
    rw [lpA_balerref09_without]
    simp only [ih]
    kernel_rfl
theorem kqA_balerref09_without {lf : Nat} {r : RT} : kcA_balerref09_without lf r = (fun a => (tK 236 (pb 5 11) lf r) (.exit 0) (zp [5] [a])) := by kernel_rfl
theorem st_balerref09_without {lf : Nat} {r : RT} {a b : V} : evStep Tryz.prog gt lf r 236 #[a, b] = inside (b_balerref09_without lf r a b) := by 
  unfold b_balerref09_without
  simp only [kqA_balerref09_without, lqA_balerref09_without]
  kernel_rfl

/- used_Read -/
def b_used_Read (lf : Nat) (r : RT) (a : V) : M V := kcl r 126 [a] fun b => kcl r 245 [a] fun c => kex c 0 fun d => kex c 1 fun e => kne e (ii 0) fun c => ifV c (kcl r
  246 [a, b] fun f => outK [d, e]) (outK [d, e])
theorem st_used_Read {lf : Nat} {r : RT} {a : V} : evStep Tryz.prog gt lf r 238 #[a] = inside (b_used_Read lf r a) := by kernel_rfl

/- block_rowOf -/
def b_block_rowOf (lf : Nat) (r : RT) (a b : V) : M V := klx a fun c => kad c (ii 2) fun d => kcl r 247 [d] fun e => kex e 0 fun f => kex e 1 fun g => klx a fun c => kcl
  r 248 [c, b] fun d => kex d 0 fun e => kex d 1 fun g => kcl r 249 [a] fun c => kex c 0 fun d => kex c 1 fun g => kbd z212 [(0, 1, f), (1, 1, e), (2, 1, d)] fun c => kbx 212 c fun g => outK [g]
theorem st_block_rowOf {lf : Nat} {r : RT} {a b : V} : evStep Tryz.prog gt lf r 239 #[a, b] = inside (b_block_rowOf lf r a b) := by kernel_rfl

/- mtf_List_At -/
def b_mtf_List_At (lf : Nat) (r : RT) (a b : V) : M V := kpe a nP fun c => ifV c (outK [(i1 0), (ii 7)]) (kls b (ii 0) fun d => ifV d (outK [(i1 0), (ii 1)]) (knn a fun
  e => kfa 0 e fun f => kld f fun g => kln g fun h => kgq b h fun i => ifV i (outK [(i1 0), (ii 1)]) (kcl r 250 [a, b] fun d => outK [d, (ii 0)])))
theorem st_mtf_List_At {lf : Nat} {r : RT} {a b : V} : evStep Tryz.prog gt lf r 240 #[a, b] = inside (b_mtf_List_At lf r a b) := by kernel_rfl

/- code_Reader_Step -/
def b_code_Reader_Step (lf : Nat) (r : RT) (a b : V) : M V := kpe a nP fun c => ifV c (outK [(ii 0), (ii 7)]) (kpe b nP fun d => ifV d (outK [(ii 0), (ii 7)]) (knn a fun
  e => kfa 6 e fun f => kld f fun g => ifV g (outK [(ii 0), (ii 7)]) (knn a fun c => kfa 7 c fun d => kld d fun e => kne e (ii 0) fun f => ifV f (knn a fun c => kfa 7 c
  fun d => kld d fun e => outK [(ii 0), e]) (knn a fun c => kfa 1 c fun d => kld d fun e => kcl r 252 [e] fun h => knt h fun i => (fun c => ifV i (c (Value.func
  (Go.Fn.func 253) #[a] #[])) (knn a fun d => kfa 4 d fun e => (timed (kld e M.ret)).bind fun h => kln h.1 fun j => knn a fun l => kfa 1 l fun m => (timed (kld m
  M.ret)).bind fun n => (timed (kcl r 254 [n.1] M.ret)).bind fun o => kls j o.1 fun p => chkT ((!(clash3 h.2 o.2) && true) && true) (ifV p (c (Value.func (Go.Fn.func
  255) #[a] #[])) (c (Value.func (Go.Fn.func 251) #[a] #[]))))) fun c => callV Tryz.prog r c [b] fun d => kex d 0 fun e => kex d 1 fun h => keq h (ii 0) fun d => ifV d
  (outK [e, h]) (kne h (ii 3) fun j => ifV j (knn a fun l => kfa 7 l fun m => kst m h fun _ => outK [(ii 0), h]) (outK [(ii 0), h]))))))
theorem st_code_Reader_Step {lf : Nat} {r : RT} {a b : V} : evStep Tryz.prog gt lf r 241 #[a, b] = inside (b_code_Reader_Step lf r a b) := by kernel_rfl

/- block_row_told -/
def b_block_row_told (lf : Nat) (r : RT) (a b : V) : M V := knn a fun c => kfa 1 c fun d => kld d fun e => kcl r 256 [e, b] fun f => kex f 0 fun g => kex f 1 fun h =>
  kex f 2 fun i => kne i (ii 0) fun c => ifV c (outK [(ii 25)]) (knn a fun d => kfa 3 d fun e => kst e g fun _ => kma h (ii 0) fun d => knn a fun e => kfa 4 e fun f => kst f d fun _ => outK [(ii 0)])
theorem st_block_row_told {lf : Nat} {r : RT} {a b : V} : evStep Tryz.prog gt lf r 242 #[a, b] = inside (b_block_row_told lf r a b) := by kernel_rfl

/- code_Reader_Done -/
def b_code_Reader_Done (lf : Nat) (r : RT) (a : V) : M V := kpn a nP fun b => ifV b (knn a fun c => kfa 6 c fun d => kld d fun e => outK [e]) (outK [bF])
theorem st_code_Reader_Done {lf : Nat} {r : RT} {a : V} : evStep Tryz.prog gt lf r 243 #[a] = inside (b_code_Reader_Done lf r a) := by kernel_rfl

/- balerref09_less -/
def b_balerref09_less (lf : Nat) (r : RT) (a b : V) : M V := kbx 299 a fun c => kbx 299 b fun d => kfa 0 c fun e => kld e fun f => kfa 0 d fun g => kld g fun h => kls f
  h fun i => ifV i (outK [bT]) (kfa 0 c fun j => kld j fun l => kfa 0 d fun m => kld m fun n => keq l n fun o => ifV o (kfa 1 c fun p => kld p fun q => kfa 1 d fun s =>
  kld s fun t => kls q t fun u => outK [u]) (outK [bF]))
theorem st_balerref09_less {lf : Nat} {r : RT} {a b : V} : evStep Tryz.prog gt lf r 244 #[a, b] = inside (b_balerref09_less lf r a b) := by kernel_rfl

/- used_read -/
def lpB_used_read (lf : Nat) (r : RT) : Nat→(V→V→V→V→V→V→V→V→V→V→M V)→V→V→V→V→V→V→V→V→V→V→V→V→V→V→V→V→V→V→M V
  | 0, _, _, _, _, _, _, _, _, _, _, _, _, _, _, _, _, _, _, _ => .fail
  | fu + 1, k, a, b, c, d, e, f, g, h, i, j, l, m, n, o, p, q, s, t => kls t s fun u => ifV u (kix q t fun v => kld v fun w => kml (ii 16) g fun v => kad v w fun x =>
   kia 256 f x fun y => kst y bT fun _ => kad t (ii 1) fun v => lpB_used_read lf r fu k a b c d e f g h i j l m n o p q s v) (k a b c d e f j l m n)
def sB_used_read : List Nat := [0, 2, 3, 4, 5, 6, 8, 9, 10, 20, 23, 24, 25, 26, 35, 38, 39, 40]
def KBB_used_read (lf : Nat) (r : RT) (k : (V→M V) × (V→V→M V)) (again : V→V→V→V→V→V→V→V→V→V→M V) : (V→V→V→V→V→V→V→V→V→V→M V) := fun a b c d e f g h i j => kad j (ii 1) fun l => again a b c d e f g h i l
def lpA_used_read (lf : Nat) (r : RT) : Nat→((V→M V) × (V→V→M V))→V→V→V→V→V→V→V→V→V→V→M V
  | 0, _, _, _, _, _, _, _, _, _, _, _ => .fail
  | fu + 1, k, a, b, c, d, e, f, g, h, i, j => kls j i fun l => ifV l (kix h j fun m => kld m fun n => kcl r 188 [a, (ii 16)] fun m => kex m 0 fun o => kex m 1 fun p =>
   kne p (ii 0) fun m => ifV m (k.2 (Value.string { data := #[] }) p) (kcl r 257 [o] fun q => kln q fun s => lpB_used_read lf r lf (KBB_used_read lf r k (lpA_used_read
   lf r fu k)) a b c d e f n o p g h i j l m q s (ii 0))) (k.1 f)
def sA_used_read : List Nat := [0, 2, 3, 4, 5, 6, 20, 23, 24, 25]
abbrev kcB_used_read (lf : Nat) (r : RT) (fu : Nat) (k : (V→M V) × (V→V→M V)) : (V→V→V→V→V→V→V→V→V→V→M V) := KBB_used_read lf r k (lpA_used_read lf r fu k)
def kcA_used_read (lf : Nat) (r : RT) : (V→M V) × (V→V→M V) := (fun a => klg 256 a fun b => kcl r 258 [b] fun c => keq c (Value.string { data := #[] }) fun b => ifV b
  (outK [(Value.string { data := #[] }), (ii 25)]) (outK [c, (ii 0)]), fun a b => outK [a, b])
def b_used_read (lf : Nat) (r : RT) (a : V) : M V := kcl r 188 [a, (ii 16)] fun b => kex b 0 fun c => kex b 1 fun d => kne d (ii 0) fun b => ifV b (outK [(Value.string {
  data := #[] }), d]) (kal 321 z321 fun e => kcl r 257 [c] fun f => kln f fun g => lpA_used_read lf r lf (kcA_used_read lf r) a (Value.string { data := #[] }) (ii 0) c d e b f g (ii 0))
theorem lqB_used_read {lf : Nat} {r : RT} (K : KT) : ∀ fu, lpB_used_read lf r fu (fun a b c d e f g h i j => K (.exit 2) (zp [0, 2, 3, 4, 5, 6, 20, 23, 24, 25] [a, b, c,
  d, e, f, g, h, i, j])) = fun a b c d e f g h i j l m n o p q s t => loopK (cQ 245 (pb 18 62255) lf r) sB_used_read fu (zp sB_used_read [a, b, c, d, e, f, g, h, i, j, l, m, n, o, p, q, s, t]) K
  | 0 => by funext a b c d e f g h i j l m n o p q s t; kernel_rfl
  | fu + 1 => by
    have ih := lqB_used_read (lf := lf) (r := r) K fu
    funext a b c d e f g h i j l m n o p q s t
    rw [lpB_used_read]
    simp only [ih]
    kernel_rfl
theorem kqB_used_read {lf : Nat} {r : RT} (K : KT) (fu : Nat) : KBB_used_read lf r ((fun a => K (.exit 0) (zp [6] [a]), fun a b => K .ret (zp [2, 3] [a, b]))) (fun a b c
  d e f g h i j => loopK (cQ 245 (pb 8 47) lf r) sA_used_read fu (zp sA_used_read [a, b, c, d, e, f, g, h, i, j]) K) = (fun a b c d e f g h i j => (iK 245 (pb 8 47) (pb
  9 243) sA_used_read fu K lf r) (.exit 2) (zp [0, 2, 3, 4, 5, 6, 20, 23, 24, 25] [a, b, c, d, e, f, g, h, i, j])) := by kernel_rfl
theorem lqA_used_read {lf : Nat} {r : RT} (K : KT) : ∀ fu, lpA_used_read lf r fu ((fun a => K (.exit 0) (zp [6] [a]), fun a b => K .ret (zp [2, 3] [a, b]))) = fun a b c
  d e f g h i j => loopK (cQ 245 (pb 8 47) lf r) sA_used_read fu (zp sA_used_read [a, b, c, d, e, f, g, h, i, j]) K
  | 0 => by funext a b c d e f g h i j; kernel_rfl
  | fu + 1 => by
    have ih := lqA_used_read (lf := lf) (r := r) K fu
    funext a b c d e f g h i j
    rw [lpA_used_read]
    simp only [ih, kqB_used_read, lqB_used_read]
    kernel_rfl
theorem kqA_used_read {lf : Nat} {r : RT} : kcA_used_read lf r = ((fun a => (tK 245 (pb 7 47) lf r) (.exit 0) (zp [6] [a]), fun a b => (tK 245 (pb 7 47) lf r) .ret (zp [2, 3] [a, b]))) := by kernel_rfl
theorem st_used_read {lf : Nat} {r : RT} {a : V} : evStep Tryz.prog gt lf r 245 #[a] = inside (b_used_read lf r a) := by 
  unfold b_used_read
  simp only [kqA_used_read, lqA_used_read]
  kernel_rfl

/- bits_Reader_Seek -/
def b_bits_Reader_Seek (lf : Nat) (r : RT) (a b : V) : M V := kpe a nP fun c => ifV c (outK [(ii 7)]) (knn a fun d => kfa 1 d fun e => kld e fun f => kml (ii 8) f fun g
  => kls b g fun h => ifV h (outK [(ii 1)]) (kcl r 122 [a] fun i => kgr b i fun j => ifV j (outK [(ii 1)]) (knn a fun d => kfa 2 d fun e => kst e b fun _ => outK [(ii 0)])))
theorem st_bits_Reader_Seek {lf : Nat} {r : RT} {a b : V} : evStep Tryz.prog gt lf r 246 #[a, b] = inside (b_bits_Reader_Seek lf r a b) := by kernel_rfl

/- code_NewReader -/
def b_code_NewReader (lf : Nat) (r : RT) (a : V) : M V := kcl r 259 [a] fun b => kex b 0 fun c => kex b 1 fun d => kne d (ii 0) fun b => ifV b (outK [nP, d]) (kcl r 260
  [] fun e => kbd z252 [(0, 1, a), (1, 1, e), (3, 1, c)] fun f => kbx 252 f fun g => outK [g, (ii 0)])
theorem st_code_NewReader {lf : Nat} {r : RT} {a : V} : evStep Tryz.prog gt lf r 247 #[a] = inside (b_code_NewReader lf r a) := by kernel_rfl

/- zeros_NewReader -/
def b_zeros_NewReader (lf : Nat) (r : RT) (a b : V) : M V := kcl r 261 [a] fun c => knt c fun d => ifV d (outK [nP, (ii 1)]) (kls b (ii 0) fun e => ifV e (outK [nP, (ii
  1)]) (kgr b (ii 1099511627776) fun f => ifV f (outK [nP, (ii 1)]) (kbd z328 [(0, 1, a), (1, 1, b), (4, 1, (ii 1))] fun c => kbx 328 c fun d => outK [d, (ii 0)])))
theorem st_zeros_NewReader {lf : Nat} {r : RT} {a b : V} : evStep Tryz.prog gt lf r 248 #[a, b] = inside (b_zeros_NewReader lf r a b) := by kernel_rfl

/- mtf_New -/
def b_mtf_New (lf : Nat) (r : RT) (a : V) : M V := kcl r 262 [a] fun b => knt b fun c => ifV c (outK [nP, (ii 1)]) (ktb 5 a fun b => kbd z317 [(0, 1, b)] fun d => kbx 317 d fun e => outK [e, (ii 0)])
theorem st_mtf_New {lf : Nat} {r : RT} {a : V} : evStep Tryz.prog gt lf r 249 #[a] = inside (b_mtf_New lf r a) := by kernel_rfl

/- mtf_List_touch -/
def b_mtf_List_touch (lf : Nat) (r : RT) (a b : V) : M V := knn a fun c => kfa 0 c fun d => kld d fun e => kix e b fun f => kld f fun g => knn a fun c => kfa 0 c fun d
  => kld d fun e => kad b (ii 1) fun f => ksc 5 1 e (some (ii 1)) (some f) fun h => knn a fun i => kfa 0 i fun j => kld j fun l => ksc 5 1 l none (some b) fun m => kcp 1
  h m fun n => knn a fun c => kfa 0 c fun d => kld d fun e => kix e (ii 0) fun f => kst f g fun _ => outK [g]
theorem st_mtf_List_touch {lf : Nat} {r : RT} {a b : V} : evStep Tryz.prog gt lf r 250 #[a, b] = inside (b_mtf_List_touch lf r a b) := by kernel_rfl

/- code_Reader_symbol -/
def b_code_Reader_symbol (lf : Nat) (r : RT) (a b : V) : M V := knn a fun c => kfa 5 c fun d => kld d fun e => kqu e (ii 50) fun f => knn a fun c => kfa 2 c fun d => kld
  d fun e => kln e fun g => kgq f g fun h => ifV h (outK [(ii (-1)), (ii 25)]) (knn a fun c => kfa 4 c fun d => kld d fun e => knn a fun g => kfa 2 g fun i => kld i fun
  j => kix j f fun l => kld l fun m => kix e m fun n => kld n fun o => kcl r 263 [o, b] fun p => kex p 0 fun q => kex p 1 fun s => kne s (ii 0) fun c => ifV c (outK [(ii
  (-1)), s]) (knn a fun d => kfa 5 d fun e => kld e fun g => kad g (ii 1) fun i => knn a fun j => kfa 5 j fun l => kst l i fun _ => knn a fun d => kfa 0 d fun e => kld e
  fun g => ksb g (ii 1) fun i => keq q i fun j => knn a fun l => kfa 6 l fun m => kst m j fun _ => outK [q, (ii 0)]))
theorem st_code_Reader_symbol {lf : Nat} {r : RT} {a b : V} : evStep Tryz.prog gt lf r 251 #[a, b] = inside (b_code_Reader_symbol lf r a b) := by kernel_rfl

/- picks_Reader_Done -/
def b_picks_Reader_Done (lf : Nat) (r : RT) (a : V) : M V := kpn a nP fun b => ifV b (knn a fun c => kfa 1 c fun d => kld d fun e => kgr e (ii 0) fun f => ifV f (knn a
  fun g => kfa 8 g fun h => kld h fun i => kln i fun j => knn a fun l => kfa 1 l fun m => kld m fun n => keq j n fun o => outK [o]) (outK [bF])) (outK [bF])
theorem st_picks_Reader_Done {lf : Nat} {r : RT} {a : V} : evStep Tryz.prog gt lf r 252 #[a] = inside (b_picks_Reader_Done lf r a) := by kernel_rfl

/- code_Reader_pick -/
def b_code_Reader_pick (lf : Nat) (r : RT) (a b : V) : M V := knn a fun c => kfa 1 c fun d => kld d fun e => kcl r 264 [e, b] fun f => knn a fun c => kfa 1 c fun d =>
  kld d fun e => kcl r 252 [e] fun g => ifV g (knn a fun c => kfa 1 c fun d => kld d fun e => kcl r 180 [e] fun h => knn a fun i => kfa 2 i fun j => kst j h fun _ => outK [(ii (-1)), f]) (outK [(ii (-1)), f])
theorem st_code_Reader_pick {lf : Nat} {r : RT} {a b : V} : evStep Tryz.prog gt lf r 253 #[a, b] = inside (b_code_Reader_pick lf r a b) := by kernel_rfl

/- picks_Reader_Tables -/
def b_picks_Reader_Tables (lf : Nat) (r : RT) (a : V) : M V := kpe a nP fun b => ifV b (outK [(ii 0)]) (knn a fun c => kfa 0 c fun d => kld d fun e => outK [e])
theorem st_picks_Reader_Tables {lf : Nat} {r : RT} {a : V} : evStep Tryz.prog gt lf r 254 #[a] = inside (b_picks_Reader_Tables lf r a) := by kernel_rfl

/- code_Reader_table -/
def b_code_Reader_table (lf : Nat) (r : RT) (a b : V) : M V := knn a fun c => kfa 3 c fun d => kld d fun e => kcl r 265 [e, b] fun f => kne f (ii 0) fun c => ifV c (outK
  [(ii (-1)), f]) (knn a fun d => kfa 3 d fun e => kld e fun g => kcl r 266 [g] fun h => knt h fun i => ifV i (outK [(ii (-1)), f]) (knn a fun c => kfa 3 c fun d => kld
  d fun e => kcl r 268 [e] fun g => kcl r 267 [g] fun h => kex h 0 fun j => kex h 1 fun l => kne l (ii 0) fun c => ifV c (outK [(ii (-1)), l]) (knn a fun d => kfa 4 d
  fun e => kld e fun g => kb1 329 1 j fun h => kap 329 1 g h fun m => knn a fun n => kfa 4 n fun o => kst o m fun _ => knn a fun d => kfa 0 d fun e => kld e fun g => kcl
  r 259 [g] fun h => kex h 0 fun m => kex h 1 fun n => knn a fun d => kfa 3 d fun e => kst e m fun _ => outK [(ii (-1)), (ii 0)])))
theorem st_code_Reader_table {lf : Nat} {r : RT} {a b : V} : evStep Tryz.prog gt lf r 255 #[a, b] = inside (b_code_Reader_table lf r a b) := by kernel_rfl

/- zeros_Reader_Put -/
def b_zeros_Reader_Put (lf : Nat) (r : RT) (a b : V) : M V := kpe a nP fun c => ifV c (outK [(ii 0), (ii 0), (ii 7)]) (knn a fun d => kfa 5 d fun e => kld e fun f => ifV
  f (outK [(ii 0), (ii 0), (ii 7)]) (kls b (ii 0) fun c => ifV c (outK [(ii 0), (ii 0), (ii 25)]) (knn a fun d => kfa 0 d fun e => kld e fun g => kad g (ii 1) fun h =>
  kgr b h fun i => ifV i (outK [(ii 0), (ii 0), (ii 25)]) (klq b (ii 1) fun c => ifV c (kcl r 269 [a, b] fun d => kne d (ii 0) fun e => ifV e (outK [(ii 0), (ii 0), d])
  (outK [(ii 0), (ii (-1)), (ii 0)])) (ksb b (ii 1) fun d => knn a fun e => kfa 0 e fun g => kld g fun h => kad h (ii 1) fun j => keq b j fun l => (fun e => ifV l (knn a
  fun g => kfa 5 g fun h => kst h bT fun _ => e (ii (-1))) ((timed (kcl r 270 [a] M.ret)).bind fun g => knn a fun h => kfa 1 h fun j => (timed (kld j M.ret)).bind fun m
  => keq g.1 m.1 fun n => chkT ((!(clash3 g.2 m.2) && true) && true) (ifV n (outK [(ii 0), (ii 0), (ii 2)]) (knn a fun g => kfa 2 g fun h => kld h fun j => kad j (ii 1)
  fun m => knn a fun o => kfa 2 o fun p => kst p m fun _ => e d)))) fun d => knn a fun e => kfa 3 e fun g => kld g fun h => knn a fun e => kfa 2 e fun g => kld g fun j
  => kad j h fun m => knn a fun n => kfa 2 n fun o => kst o m fun _ => knn a fun e => kfa 3 e fun g => kst g (ii 0) fun _ => knn a fun e => kfa 4 e fun g => kst g (ii 1) fun _ => outK [h, d, (ii 0)])))))
theorem st_zeros_Reader_Put {lf : Nat} {r : RT} {a b : V} : evStep Tryz.prog gt lf r 256 #[a, b] = inside (b_zeros_Reader_Put lf r a b) := by kernel_rfl

/- used_marks -/
def lpA_used_marks (lf : Nat) (r : RT) : Nat→(V→M V)→V→V→V→V→M V
  | 0, _, _, _, _, _ => .fail
  | fu + 1, k, a, b, c, d => kls d (ii 16) fun e => ifV e (ksb (ii 15) d fun f => ksr a f fun g => kan g (i3 1) fun h => keq h (i3 1) fun i => ifV i (kb1 3 1 d fun f =>
   kap 3 1 c f fun g => kad d (ii 1) fun c => lpA_used_marks lf r fu k a b g c) (kad d (ii 1) fun f => lpA_used_marks lf r fu k a b c f)) (k c)
def sA_used_marks : List Nat := [0, 2, 3, 5]
def kcA_used_marks (lf : Nat) (r : RT) : (V→M V) := fun a => outK [a]
def b_used_marks (lf : Nat) (r : RT) (a : V) : M V := lpA_used_marks lf r lf (kcA_used_marks lf r) a nS nS (ii 0)
theorem lqA_used_marks {lf : Nat} {r : RT} (K : KT) : ∀ fu, lpA_used_marks lf r fu (fun a => K (.exit 0) (zp [3] [a])) = fun a b c d => loopK (cQ 257 (pb 6 11) lf r)
  sA_used_marks fu (zp sA_used_marks [a, b, c, d]) K
  | 0 => by funext a b c d; kernel_rfl
  | fu + 1 => by
    have ih := lqA_used_marks (lf := lf) (r := r) K fu
    funext a b c d
    rw [lpA_used_marks]
    simp only [ih]
    kernel_rfl
theorem kqA_used_marks {lf : Nat} {r : RT} : kcA_used_marks lf r = (fun a => (tK 257 (pb 5 11) lf r) (.exit 0) (zp [3] [a])) := by kernel_rfl
theorem st_used_marks {lf : Nat} {r : RT} {a : V} : evStep Tryz.prog gt lf r 257 #[a] = inside (b_used_marks lf r a) := by 
  unfold b_used_marks
  simp only [kqA_used_marks, lqA_used_marks]
  kernel_rfl

/- used_listed -/
def lpA_used_listed (lf : Nat) (r : RT) : Nat→(V→M V)→V→V→V→V→V→V→M V
  | 0, _, _, _, _, _, _, _ => .fail
  | fu + 1, k, a, b, c, d, e, f => kls f (ii 256) fun g => ifV g (kiv 256 e f fun h => ifV h (kcv .u8 f fun i => kb1 5 1 i fun j => kap 5 1 d j fun l => kad f (ii 1) fun
   d => lpA_used_listed lf r fu k a b c l e d) (kad f (ii 1) fun i => lpA_used_listed lf r fu k a b c d e i)) (k d)
def sA_used_listed : List Nat := [0, 1, 2, 3, 6, 7]
def kcA_used_listed (lf : Nat) (r : RT) : (V→M V) := fun a => kts a fun b => outK [b]
def b_used_listed (lf : Nat) (r : RT) (a : V) : M V := kbx 321 a fun b => klg 256 b fun c => lpA_used_listed lf r lf (kcA_used_listed lf r) a b (Value.string { data := #[] }) nS c (ii 0)
theorem lqA_used_listed {lf : Nat} {r : RT} (K : KT) : ∀ fu, lpA_used_listed lf r fu (fun a => K (.exit 0) (zp [3] [a])) = fun a b c d e f => loopK (cQ 258 (pb 6 11) lf
  r) sA_used_listed fu (zp sA_used_listed [a, b, c, d, e, f]) K
  | 0 => by funext a b c d e f; kernel_rfl
  | fu + 1 => by
    have ih := lqA_used_listed (lf := lf) (r := r) K fu
    funext a b c d e f
    rw [lpA_used_listed]
    simp only [ih]
    kernel_rfl
theorem kqA_used_listed {lf : Nat} {r : RT} : kcA_used_listed lf r = (fun a => (tK 258 (pb 5 11) lf r) (.exit 0) (zp [3] [a])) := by kernel_rfl
theorem st_used_listed {lf : Nat} {r : RT} {a : V} : evStep Tryz.prog gt lf r 258 #[a] = inside (b_used_listed lf r a) := by 
  unfold b_used_listed
  simp only [kqA_used_listed, lqA_used_listed]
  kernel_rfl

/- delta_NewReader -/
def b_delta_NewReader (lf : Nat) (r : RT) (a : V) : M V := kcl r 271 [a] fun b => knt b fun c => ifV c (outK [nP, (ii 1)]) (kbd z333 [(0, 1, a)] fun b => kbx 333 b fun d => outK [d, (ii 0)])
theorem st_delta_NewReader {lf : Nat} {r : RT} {a : V} : evStep Tryz.prog gt lf r 259 #[a] = inside (b_delta_NewReader lf r a) := by kernel_rfl

/- picks_NewReader -/
def b_picks_NewReader (lf : Nat) (r : RT)  : M V := kcl r 272 [] fun a => kbd z282 [(2, 6, a)] fun b => kbx 282 b fun c => outK [c]
theorem st_picks_NewReader {lf : Nat} {r : RT}  : evStep Tryz.prog gt lf r 260 #[] = inside (b_picks_NewReader lf r) := by kernel_rfl

/- zeros_may -/
def b_zeros_may (lf : Nat) (r : RT) (a : V) : M V := kgq a (ii 1) fun b => ifV b (klq a (ii 256) fun c => outK [c]) (outK [bF])
theorem st_zeros_may {lf : Nat} {r : RT} {a : V} : evStep Tryz.prog gt lf r 261 #[a] = inside (b_zeros_may lf r a) := by kernel_rfl

/- used_Is -/
def lpA_used_Is (lf : Nat) (r : RT) : Nat→((V→M V) × (V→M V))→V→V→V→V→M V
  | 0, _, _, _, _, _ => .fail
  | fu + 1, k, a, b, c, d => kls d c fun e => ifV e (kgr d (ii 0) fun f => ifV f (kit a d fun g => ksb d (ii 1) fun h => kit a h fun i => klq g i fun j => ifV j (k.2 bF)
   (kad d (ii 1) fun f => lpA_used_Is lf r fu k a b c f)) (kad d (ii 1) fun f => lpA_used_Is lf r fu k a b c f)) (k.1 a)
def sA_used_Is : List Nat := [0, 2, 5, 6]
def kcA_used_Is (lf : Nat) (r : RT) : (V→M V) × (V→M V) := (fun a => kne a (Value.string { data := #[] }) fun b => outK [b], fun a => outK [a])
def b_used_Is (lf : Nat) (r : RT) (a : V) : M V := klx a fun b => lpA_used_Is lf r lf (kcA_used_Is lf r) a bF b (ii 0)
theorem lqA_used_Is {lf : Nat} {r : RT} (K : KT) : ∀ fu, lpA_used_Is lf r fu ((fun a => K (.exit 0) (zp [0] [a]), fun a => K .ret (zp [2] [a]))) = fun a b c d => loopK
  (cQ 262 (pb 5 5) lf r) sA_used_Is fu (zp sA_used_Is [a, b, c, d]) K
  | 0 => by funext a b c d; kernel_rfl
  | fu + 1 => by
    have ih := lqA_used_Is (lf := lf) (r := r) K fu
    funext a b c d
    rw [lpA_used_Is]
    simp only [ih]
    kernel_rfl
theorem kqA_used_Is {lf : Nat} {r : RT} : kcA_used_Is lf r = ((fun a => (tK 262 (pb 4 5) lf r) (.exit 0) (zp [0] [a]), fun a => (tK 262 (pb 4 5) lf r) .ret (zp [2] [a]))) := by kernel_rfl
theorem st_used_Is {lf : Nat} {r : RT} {a : V} : evStep Tryz.prog gt lf r 262 #[a] = inside (b_used_Is lf r a) := by 
  unfold b_used_Is
  simp only [kqA_used_Is, lqA_used_Is]
  kernel_rfl

/- canon_Code_Get -/
def b_canon_Code_Get (lf : Nat) (r : RT) (a b : V) : M V := kpe a nP fun c => ifV c (outK [(ii 0), (ii 7)]) (kpe b nP fun d => ifV d (outK [(ii 0), (ii 7)]) (kcl r 126
  [b] fun c => kcl r 273 [a, b] fun e => kex e 0 fun f => kex e 1 fun g => kne g (ii 0) fun e => ifV e (kcl r 246 [b, c] fun h => outK [f, g]) (outK [f, g])))
theorem st_canon_Code_Get {lf : Nat} {r : RT} {a b : V} : evStep Tryz.prog gt lf r 263 #[a, b] = inside (b_canon_Code_Get lf r a b) := by kernel_rfl

/- picks_Reader_Step -/
def b_picks_Reader_Step (lf : Nat) (r : RT) (a b : V) : M V := kpe a nP fun c => ifV c (outK [(ii 7)]) (kpe b nP fun d => ifV d (outK [(ii 7)]) (kcl r 252 [a] fun e =>
  ifV e (outK [(ii 7)]) (knn a fun c => kfa 9 c fun d => kld d fun f => ifV f (outK [(ii 25)]) (kcl r 126 [b] fun c => knn a fun d => kfa 1 d fun g => kld g fun h => keq
  h (ii 0) fun i => (fun d => ifV i (d (Value.func (Go.Fn.func 275) #[a] #[])) (d (Value.func (Go.Fn.func 274) #[a] #[]))) fun d => callV Tryz.prog r d [b] fun g => keq g
  (ii 3) fun h => ifV h (kcl r 246 [b, c] fun j => outK [g]) (outK [g])))))
theorem st_picks_Reader_Step {lf : Nat} {r : RT} {a b : V} : evStep Tryz.prog gt lf r 264 #[a, b] = inside (b_picks_Reader_Step lf r a b) := by kernel_rfl

/- delta_Reader_Step -/
def b_delta_Reader_Step (lf : Nat) (r : RT) (a b : V) : M V := kpe a nP fun c => ifV c (outK [(ii 7)]) (kpe b nP fun d => ifV d (outK [(ii 7)]) (kcl r 266 [a] fun e =>
  ifV e (outK [(ii 7)]) (knn a fun c => kfa 3 c fun d => kld d fun f => ifV f (outK [(ii 22)]) (kcl r 126 [b] fun c => kcl r 276 [a, b] fun d => keq d (ii 3) fun g =>
  ifV g (kcl r 246 [b, c] fun h => outK [d]) (outK [d])))))
theorem st_delta_Reader_Step {lf : Nat} {r : RT} {a b : V} : evStep Tryz.prog gt lf r 265 #[a, b] = inside (b_delta_Reader_Step lf r a b) := by kernel_rfl

/- delta_Reader_Done -/
def b_delta_Reader_Done (lf : Nat) (r : RT) (a : V) : M V := kpn a nP fun b => ifV b (knn a fun c => kfa 2 c fun d => kld d fun e => kln e fun f => knn a fun g => kfa 0
  g fun h => kld h fun i => keq f i fun j => outK [j]) (outK [bF])
theorem st_delta_Reader_Done {lf : Nat} {r : RT} {a : V} : evStep Tryz.prog gt lf r 266 #[a] = inside (b_delta_Reader_Done lf r a) := by kernel_rfl

/- canon_New -/
def lpB_canon_New (lf : Nat) (r : RT) : Nat→(V→V→V→V→V→V→V→V→M V)→V→V→V→V→V→V→V→V→V→V→V→V→M V
  | 0, _, _, _, _, _, _, _, _, _, _, _, _, _ => .fail
  | fu + 1, k, a, b, c, d, e, f, g, h, i, j, l, m => kls m l fun n => ifV n (kix j m fun o => kld o fun p => keq p f fun o => ifV o (knn d fun q => kfa 1 q fun s => kld
   s fun t => kcv .u32 e fun u => kix t m fun v => kst v u fun _ => knn d fun q => kfa 2 q fun s => kld s fun t => kb1 3 1 m fun u => kap 3 1 t u fun v => knn d fun w =>
   kfa 2 w fun x => kst x v fun _ => kad e (ii 1) fun q => kad m (ii 1) fun e => lpB_canon_New lf r fu k a b c d q f g h i j l e) (kad m (ii 1) fun q => lpB_canon_New lf
   r fu k a b c d e f g h i j l q)) (k a b c d e f g h)
def sB_canon_New : List Nat := [0, 2, 3, 4, 5, 6, 9, 18, 30, 51, 52, 53]
def KBB_canon_New (lf : Nat) (r : RT) (k : (V→M V)) (again : V→V→V→V→V→V→V→V→M V) : (V→V→V→V→V→V→V→V→M V) := fun a b c d e f g h => kad f (ii 1) fun i => again a b c d e i g h
def lpA_canon_New (lf : Nat) (r : RT) : Nat→(V→M V)→V→V→V→V→V→V→V→V→M V
  | 0, _, _, _, _, _, _, _, _, _ => .fail
  | fu + 1, k, a, b, c, d, e, f, g, h => klq f (ii 20) fun i => ifV i (kml e (ii 2) fun j => knn d fun e => kfa 3 e fun l => kia 21 l f fun m => kst m j fun _ => knn d
   fun e => kfa 2 e fun l => kld l fun m => kln m fun n => knn d fun o => kfa 24 o fun p => kia 22 p f fun q => kst q n fun _ => kln a fun e => lpB_canon_New lf r lf
   (KBB_canon_New lf r k (lpA_canon_New lf r fu k)) a b c d j f g h i a e (ii 0)) (k d)
def sA_canon_New : List Nat := [0, 2, 3, 4, 5, 6, 9, 18]
abbrev kcB_canon_New (lf : Nat) (r : RT) (fu : Nat) (k : (V→M V)) : (V→V→V→V→V→V→V→V→M V) := KBB_canon_New lf r k (lpA_canon_New lf r fu k)
def kcA_canon_New (lf : Nat) (r : RT) : (V→M V) := fun a => knn a fun b => kfa 2 b fun c => kld c fun d => kln d fun e => knn a fun f => kfa 24 f fun g => kia 22 g (ii
  21) fun h => kst h e fun _ => outK [a, (ii 0)]
def b_canon_New (lf : Nat) (r : RT) (a : V) : M V := kln a fun b => kls b (ii 3) fun c => ifV c (outK [nP, (ii 1)]) (kln a fun d => kgr d (ii 258) fun e => ifV e (outK
  [nP, (ii 1)]) (kcl r 277 [a] fun b => knt b fun c => ifV c (outK [nP, (ii 22)]) ((timed (kcl r 208 [a] M.ret)).bind fun b => kln a fun d => (timed (kmk 31 [(i3 0)] d d
  M.ret)).bind fun f => kbd z338 [(0, 1, b.1), (1, 1, f.1)] fun g => (timed (kbx 338 g M.ret)).bind fun h => chkT ((!(clash3 b.2 f.2) && true) && true) (lpA_canon_New lf
  r lf (kcA_canon_New lf r) a nP (ii 0) h.1 (ii 0) (ii 1) e c))))
theorem lqB_canon_New {lf : Nat} {r : RT} (K : KT) : ∀ fu, lpB_canon_New lf r fu (fun a b c d e f g h => K (.exit 3) (zp [0, 2, 3, 4, 5, 6, 9, 18] [a, b, c, d, e, f, g,
  h])) = fun a b c d e f g h i j l m => loopK (cQ 267 (pb 17 31023) lf r) sB_canon_New fu (zp sB_canon_New [a, b, c, d, e, f, g, h, i, j, l, m]) K
  | 0 => by funext a b c d e f g h i j l m; kernel_rfl
  | fu + 1 => by
    have ih := lqB_canon_New (lf := lf) (r := r) K fu
    funext a b c d e f g h i j l m
    rw [lpB_canon_New]
    simp only [ih]
    kernel_rfl
theorem kqB_canon_New {lf : Nat} {r : RT} (K : KT) (fu : Nat) : KBB_canon_New lf r (fun a => K (.exit 1) (zp [4] [a])) (fun a b c d e f g h => loopK (cQ 267 (pb 8 47) lf
  r) sA_canon_New fu (zp sA_canon_New [a, b, c, d, e, f, g, h]) K) = (fun a b c d e f g h => (iK 267 (pb 8 47) (pb 8 121) sA_canon_New fu K lf r) (.exit 3) (zp [0, 2, 3,
  4, 5, 6, 9, 18] [a, b, c, d, e, f, g, h])) := by kernel_rfl
theorem lqA_canon_New {lf : Nat} {r : RT} (K : KT) : ∀ fu, lpA_canon_New lf r fu (fun a => K (.exit 1) (zp [4] [a])) = fun a b c d e f g h => loopK (cQ 267 (pb 8 47) lf
  r) sA_canon_New fu (zp sA_canon_New [a, b, c, d, e, f, g, h]) K
  | 0 => by funext a b c d e f g h; kernel_rfl
  | fu + 1 => by
    have ih := lqA_canon_New (lf := lf) (r := r) K fu
    funext a b c d e f g h
    rw [lpA_canon_New]
    simp only [ih, kqB_canon_New, lqB_canon_New]
    kernel_rfl
theorem kqA_canon_New {lf : Nat} {r : RT} : kcA_canon_New lf r = (fun a => (tK 267 (pb 7 47) lf r) (.exit 1) (zp [4] [a])) := by kernel_rfl
theorem st_canon_New {lf : Nat} {r : RT} {a : V} : evStep Tryz.prog gt lf r 267 #[a] = inside (b_canon_New lf r a) := by 
  unfold b_canon_New
  simp only [kqA_canon_New, lqA_canon_New]
  kernel_rfl

/- delta_Reader_Lens -/
def b_delta_Reader_Lens (lf : Nat) (r : RT) (a : V) : M V := kpe a nP fun b => ifV b (outK [nS]) (knn a fun c => kfa 2 c fun d => kld d fun e => kcl r 208 [e] fun f => outK [f])
theorem st_delta_Reader_Lens {lf : Nat} {r : RT} {a : V} : evStep Tryz.prog gt lf r 268 #[a] = inside (b_delta_Reader_Lens lf r a) := by kernel_rfl

/- zeros_Reader_more -/
def b_zeros_Reader_more (lf : Nat) (r : RT) (a b : V) : M V := knn a fun c => kfa 4 c fun d => kld d fun e => ksl e b fun f => knn a fun c => kfa 1 c fun d => (timed
  (kld d M.ret)).bind fun e => (timed (kcl r 270 [a] M.ret)).bind fun g => ksb e.1 g.1 fun h => kgr f h fun i => chkT ((!(clash3 e.2 g.2) && true) && true) (ifV i (outK
  [(ii 2)]) (knn a fun c => kfa 3 c fun d => kld d fun e => kad e f fun g => knn a fun h => kfa 3 h fun j => kst j g fun _ => knn a fun c => kfa 4 c fun d => kld d fun e
  => kml e (ii 2) fun g => knn a fun h => kfa 4 h fun j => kst j g fun _ => outK [(ii 0)]))
theorem st_zeros_Reader_more {lf : Nat} {r : RT} {a b : V} : evStep Tryz.prog gt lf r 269 #[a, b] = inside (b_zeros_Reader_more lf r a b) := by kernel_rfl

/- zeros_Reader_Count -/
def b_zeros_Reader_Count (lf : Nat) (r : RT) (a : V) : M V := kpe a nP fun b => ifV b (outK [(ii 0)]) (knn a fun c => kfa 2 c fun d => kld d fun e => knn a fun f => kfa
  3 f fun g => kld g fun h => kad e h fun i => outK [i])
theorem st_zeros_Reader_Count {lf : Nat} {r : RT} {a : V} : evStep Tryz.prog gt lf r 270 #[a] = inside (b_zeros_Reader_Count lf r a) := by kernel_rfl

/- delta_sized -/
def b_delta_sized (lf : Nat) (r : RT) (a : V) : M V := kgq a (ii 3) fun b => ifV b (klq a (ii 258) fun c => outK [c]) (outK [bF])
theorem st_delta_sized {lf : Nat} {r : RT} {a : V} : evStep Tryz.prog gt lf r 271 #[a] = inside (b_delta_sized lf r a) := by kernel_rfl

/- picks_fresh -/
def lpA_picks_fresh (lf : Nat) (r : RT) : Nat→(V→V→M V)→V→V→V→M V
  | 0, _, _, _, _ => .fail
  | fu + 1, k, a, b, c => kls c (ii 6) fun d => ifV d (kia 6 b c fun e => kst e c fun _ => kad c (ii 1) fun e => lpA_picks_fresh lf r fu k a b e) (k a b)
def sA_picks_fresh : List Nat := [0, 1, 3]
def kcA_picks_fresh (lf : Nat) (r : RT) : (V→V→M V) := fun a b => klg 6 b fun c => ksg 6 a c fun _ => klg 6 a fun b => outK [b]
def b_picks_fresh (lf : Nat) (r : RT)  : M V := kal 280 z280 fun a => kal 280 z280 fun b => lpA_picks_fresh lf r lf (kcA_picks_fresh lf r) a b (ii 0)
theorem lqA_picks_fresh {lf : Nat} {r : RT} (K : KT) : ∀ fu, lpA_picks_fresh lf r fu (fun a b => K (.exit 0) (zp [0, 1] [a, b])) = fun a b c => loopK (cQ 272 (pb 6 11)
  lf r) sA_picks_fresh fu (zp sA_picks_fresh [a, b, c]) K
  | 0 => by funext a b c; kernel_rfl
  | fu + 1 => by
    have ih := lqA_picks_fresh (lf := lf) (r := r) K fu
    funext a b c
    rw [lpA_picks_fresh]
    simp only [ih]
    kernel_rfl
theorem kqA_picks_fresh {lf : Nat} {r : RT} : kcA_picks_fresh lf r = (fun a b => (tK 272 (pb 5 11) lf r) (.exit 0) (zp [0, 1] [a, b])) := by kernel_rfl
theorem st_picks_fresh {lf : Nat} {r : RT}  : evStep Tryz.prog gt lf r 272 #[] = inside (b_picks_fresh lf r) := by 
  unfold b_picks_fresh
  simp only [kqA_picks_fresh, lqA_picks_fresh]
  kernel_rfl

/- canon_Code_get -/
def lpA_canon_Code_get (lf : Nat) (r : RT) : Nat→((M V) × (V→V→M V))→V→V→V→V→V→V→M V
  | 0, _, _, _, _, _, _, _ => .fail
  | fu + 1, k, a, b, c, d, e, f => klq f (ii 20) fun g => ifV g (kcl r 188 [b, (ii 1)] fun h => kex h 0 fun i => kex h 1 fun j => kne j (ii 0) fun h => ifV h (k.2 (ii 0)
   j) (kml (ii 2) e fun l => kcv .i64 i fun m => kad l m fun n => knn a fun e => kfa 24 e fun l => kia 22 l f fun m => kld m fun o => kad o n fun p => knn a fun q => kfa
   3 q fun s => kia 21 s f fun t => kld t fun u => ksb p u fun v => kad f (ii 1) fun e => knn a fun l => kfa 24 l fun m => kia 22 m e fun o => kld o fun p => kls v p fun
   q => ifV q (knn a fun e => kfa 2 e fun l => kld l fun m => kix m v fun o => kld o fun p => k.2 p (ii 0)) (kad f (ii 1) fun e => lpA_canon_Code_get lf r fu k a b c d n e))) (k.1)
def sA_canon_Code_get : List Nat := [0, 1, 4, 5, 6, 7]
def kcA_canon_Code_get (lf : Nat) (r : RT) : (M V) × (V→V→M V) := (outK [(ii 0), (ii 22)], fun a b => outK [a, b])
def b_canon_Code_get (lf : Nat) (r : RT) (a b : V) : M V := lpA_canon_Code_get lf r lf (kcA_canon_Code_get lf r) a b (ii 0) (ii 0) (ii 0) (ii 1)
theorem lqA_canon_Code_get {lf : Nat} {r : RT} (K : KT) : ∀ fu, lpA_canon_Code_get lf r fu ((K (.exit 0) [], fun a b => K .ret (zp [4, 5] [a, b]))) = fun a b c d e f =>
  loopK (cQ 273 (pb 6 11) lf r) sA_canon_Code_get fu (zp sA_canon_Code_get [a, b, c, d, e, f]) K
  | 0 => by funext a b c d e f; kernel_rfl
  | fu + 1 => by
    have ih := lqA_canon_Code_get (lf := lf) (r := r) K fu
    funext a b c d e f
    rw [lpA_canon_Code_get]
    simp only [ih]
    kernel_rfl
theorem kqA_canon_Code_get {lf : Nat} {r : RT} : kcA_canon_Code_get lf r = (((tK 273 (pb 5 11) lf r) (.exit 0) [], fun a b => (tK 273 (pb 5 11) lf r) .ret (zp [4, 5] [a, b]))) := by kernel_rfl
theorem st_canon_Code_get {lf : Nat} {r : RT} {a b : V} : evStep Tryz.prog gt lf r 273 #[a, b] = inside (b_canon_Code_get lf r a b) := by 
  unfold b_canon_Code_get
  simp only [kqA_canon_Code_get, lqA_canon_Code_get]
  kernel_rfl

/- picks_Reader_pick -/
def lpA_picks_Reader_pick (lf : Nat) (r : RT) : Nat→((V→M V) × (V→M V))→V→V→V→V→V→M V
  | 0, _, _, _, _, _, _ => .fail
  | fu + 1, k, a, b, c, d, e => kls e d fun f => ifV f (kcl r 188 [b, (ii 1)] fun g => kex g 0 fun h => kex g 1 fun i => kne i (ii 0) fun g => ifV g (k.2 i) (keq h (i3
   0) fun j => ifV j (knn a fun l => kfa 8 l fun m => (timed (kld m M.ret)).bind fun n => knn a fun o => kfa 2 o fun p => (timed (kcl r 278 [p, e] M.ret)).bind fun q =>
   (timed (kb1 3 1 q.1 M.ret)).bind fun s => (timed (kap 3 1 n.1 s.1 M.ret)).bind fun t => knn a fun u => kfa 8 u fun v => (timed (kst v t.1 M.ret)).bind fun w => chkT
   ((!(clash3 n.2 q.2) && true) && true) (k.2 (ii 0))) (kad e (ii 1) fun l => lpA_picks_Reader_pick lf r fu k a b c d l))) (k.1 a)
def sA_picks_Reader_pick : List Nat := [0, 1, 4, 11, 12]
def kcA_picks_Reader_pick (lf : Nat) (r : RT) : (V→M V) × (V→M V) := (fun a => kcl r 279 [a] fun b => outK [b], fun a => outK [a])
def b_picks_Reader_pick (lf : Nat) (r : RT) (a b : V) : M V := knn a fun c => kfa 0 c fun d => kld d fun e => lpA_picks_Reader_pick lf r lf (kcA_picks_Reader_pick lf r) a b (ii 0) e (ii 0)
theorem lqA_picks_Reader_pick {lf : Nat} {r : RT} (K : KT) : ∀ fu, lpA_picks_Reader_pick lf r fu ((fun a => K (.exit 0) (zp [0] [a]), fun a => K .ret (zp [4] [a]))) =
  fun a b c d e => loopK (cQ 274 (pb 5 5) lf r) sA_picks_Reader_pick fu (zp sA_picks_Reader_pick [a, b, c, d, e]) K
  | 0 => by funext a b c d e; kernel_rfl
  | fu + 1 => by
    have ih := lqA_picks_Reader_pick (lf := lf) (r := r) K fu
    funext a b c d e
    rw [lpA_picks_Reader_pick]
    simp only [ih]
    kernel_rfl
theorem kqA_picks_Reader_pick {lf : Nat} {r : RT} : kcA_picks_Reader_pick lf r = ((fun a => (tK 274 (pb 4 5) lf r) (.exit 0) (zp [0] [a]), fun a => (tK 274 (pb 4 5) lf r) .ret (zp [4] [a]))) := by kernel_rfl
theorem st_picks_Reader_pick {lf : Nat} {r : RT} {a b : V} : evStep Tryz.prog gt lf r 274 #[a, b] = inside (b_picks_Reader_pick lf r a b) := by 
  unfold b_picks_Reader_pick
  simp only [kqA_picks_Reader_pick, lqA_picks_Reader_pick]
  kernel_rfl

/- picks_Reader_head -/
def b_picks_Reader_head (lf : Nat) (r : RT) (a b : V) : M V := kcl r 188 [b, (ii 18)] fun c => kex c 0 fun d => kex c 1 fun e => kne e (ii 0) fun c => ifV c (outK [e])
  (ksr d (i6 15) fun f => kcv .i64 f fun g => kan d (i3 32767) fun h => kcv .i64 h fun i => kcl r 280 [g] fun f => knt f fun h => ifV h (kcl r 279 [a] fun f => outK [f])
  (keq i (ii 0) fun j => ifV j (kcl r 279 [a] fun f => outK [f]) (knn a fun f => kfa 0 f fun h => kst h g fun _ => knn a fun f => kfa 1 f fun h => kst h i fun _ => outK [(ii 0)])))
theorem st_picks_Reader_head {lf : Nat} {r : RT} {a b : V} : evStep Tryz.prog gt lf r 275 #[a, b] = inside (b_picks_Reader_head lf r a b) := by kernel_rfl

/- delta_Reader_step -/
def b_delta_Reader_step (lf : Nat) (r : RT) (a b : V) : M V := knn a fun c => kfa 1 c fun d => kld d fun e => keq e (ii 0) fun f => ifV f (kcl r 188 [b, (ii 5)] fun c =>
  kex c 0 fun d => kex c 1 fun e => kne e (ii 0) fun c => ifV c (outK [e]) (kcv .i64 d fun g => kcl r 281 [a, g] fun h => outK [h])) (kcl r 188 [b, (ii 1)] fun c => kex
  c 0 fun d => kex c 1 fun e => kne e (ii 0) fun c => ifV c (outK [e]) (keq d (i3 0) fun g => ifV g (knn a fun h => kfa 2 h fun i => kld i fun j => knn a fun l => kfa 1
  l fun m => kld m fun n => kb1 3 1 n fun o => kap 3 1 j o fun p => knn a fun q => kfa 2 q fun s => kst s p fun _ => outK [(ii 0)]) (kcl r 188 [b, (ii 1)] fun h => kex h
  0 fun i => kex h 1 fun j => kne j (ii 0) fun d => ifV d (outK [j]) (knn a fun e => kfa 1 e fun h => kld h fun l => kad l (ii 1) fun m => kcv .i64 i fun n => kml (ii 2)
  n fun o => ksb m o fun p => kcl r 281 [a, p] fun q => outK [q]))))
theorem st_delta_Reader_step {lf : Nat} {r : RT} {a b : V} : evStep Tryz.prog gt lf r 276 #[a, b] = inside (b_delta_Reader_step lf r a b) := by kernel_rfl

/- canon_whole -/
def b_canon_whole (lf : Nat) (r : RT) (a : V) : M V := kcl r 282 [a] fun b => kex b 0 fun c => kex b 1 fun d => keq d (ii 0) fun b => ifV b (keq c (ii 1048576) fun e =>
  ifV e (kcl r 283 [a, (ii 0)] fun f => knt f fun g => outK [g]) (outK [bF])) (outK [bF])
theorem st_canon_whole {lf : Nat} {r : RT} {a : V} : evStep Tryz.prog gt lf r 277 #[a] = inside (b_canon_whole lf r a) := by kernel_rfl

/- picks_order_touch -/
def lpA_picks_order_touch (lf : Nat) (r : RT) : Nat→(V→V→M V)→V→V→V→V→V→M V
  | 0, _, _, _, _, _, _ => .fail
  | fu + 1, k, a, b, c, d, e => kgr e (ii 0) fun f => ifV f (ksb e (ii 1) fun g => knn a fun h => kia 6 h g fun i => kld i fun j => knn a fun l => kia 6 l e fun m => kst
   m j fun _ => ksb e (ii 1) fun g => lpA_picks_order_touch lf r fu k a b c d g) (k a d)
def sA_picks_order_touch : List Nat := [0, 1, 4, 5, 6]
def kcA_picks_order_touch (lf : Nat) (r : RT) : (V→V→M V) := fun a b => knn a fun c => kia 6 c (ii 0) fun d => kst d b fun _ => outK [b]
def b_picks_order_touch (lf : Nat) (r : RT) (a b : V) : M V := knn a fun c => kia 6 c b fun d => kld d fun e => lpA_picks_order_touch lf r lf (kcA_picks_order_touch lf r) a b (ii 0) e b
theorem lqA_picks_order_touch {lf : Nat} {r : RT} (K : KT) : ∀ fu, lpA_picks_order_touch lf r fu (fun a b => K (.exit 0) (zp [0, 5] [a, b])) = fun a b c d e => loopK (cQ
  278 (pb 6 11) lf r) sA_picks_order_touch fu (zp sA_picks_order_touch [a, b, c, d, e]) K
  | 0 => by funext a b c d e; kernel_rfl
  | fu + 1 => by
    have ih := lqA_picks_order_touch (lf := lf) (r := r) K fu
    funext a b c d e
    rw [lpA_picks_order_touch]
    simp only [ih]
    kernel_rfl
theorem kqA_picks_order_touch {lf : Nat} {r : RT} : kcA_picks_order_touch lf r = (fun a b => (tK 278 (pb 5 11) lf r) (.exit 0) (zp [0, 5] [a, b])) := by kernel_rfl
theorem st_picks_order_touch {lf : Nat} {r : RT} {a b : V} : evStep Tryz.prog gt lf r 278 #[a, b] = inside (b_picks_order_touch lf r a b) := by 
  unfold b_picks_order_touch
  simp only [kqA_picks_order_touch, lqA_picks_order_touch]
  kernel_rfl

/- picks_Reader_fail -/
def b_picks_Reader_fail (lf : Nat) (r : RT) (a : V) : M V := knn a fun b => kfa 9 b fun c => kst c bT fun _ => outK [(ii 25)]
theorem st_picks_Reader_fail {lf : Nat} {r : RT} {a : V} : evStep Tryz.prog gt lf r 279 #[a] = inside (b_picks_Reader_fail lf r a) := by kernel_rfl

/- picks_tabled -/
def b_picks_tabled (lf : Nat) (r : RT) (a : V) : M V := kgq a (ii 2) fun b => ifV b (klq a (ii 6) fun c => outK [c]) (outK [bF])
theorem st_picks_tabled {lf : Nat} {r : RT} {a : V} : evStep Tryz.prog gt lf r 280 #[a] = inside (b_picks_tabled lf r a) := by kernel_rfl

/- delta_Reader_turned -/
def b_delta_Reader_turned (lf : Nat) (r : RT) (a b : V) : M V := kcl r 284 [b] fun c => knt c fun d => ifV d (knn a fun c => kfa 3 c fun e => kst e bT fun _ => outK [(ii
  22)]) (knn a fun c => kfa 1 c fun e => kst e b fun _ => outK [(ii 0)])
theorem st_delta_Reader_turned {lf : Nat} {r : RT} {a b : V} : evStep Tryz.prog gt lf r 281 #[a, b] = inside (b_delta_Reader_turned lf r a b) := by kernel_rfl

/- lens_Share -/
def lpA_lens_Share (lf : Nat) (r : RT) : Nat→(V→M V)→V→V→V→V→V→V→V→V→M V
  | 0, _, _, _, _, _, _, _, _, _ => .fail
  | fu + 1, k, a, b, c, d, e, f, g, h => kls h g fun i => ifV i (kix f h fun j => kld j fun l => ksb (ii 20) l fun j => ksl (ii 1) j fun m => kad d m fun n => kad h (ii
   1) fun d => lpA_lens_Share lf r fu k a b c n e f g d) (k d)
def sA_lens_Share : List Nat := [0, 2, 3, 4, 14, 15, 16, 17]
def kcA_lens_Share (lf : Nat) (r : RT) : (V→M V) := fun a => outK [a, (ii 0)]
def b_lens_Share (lf : Nat) (r : RT) (a : V) : M V := kln a fun b => kgr b (ii 258) fun c => ifV c (outK [(ii 0), (ii 1)]) (kcl r 285 [a, (ii 0), (ii 20)] fun d => knt d
  fun e => ifV e (outK [(ii 0), (ii 1)]) (kln a fun b => lpA_lens_Share lf r lf (kcA_lens_Share lf r) a (ii 0) (ii 0) (ii 0) e a b (ii 0)))
theorem lqA_lens_Share {lf : Nat} {r : RT} (K : KT) : ∀ fu, lpA_lens_Share lf r fu (fun a => K (.exit 0) (zp [4] [a])) = fun a b c d e f g h => loopK (cQ 282 (pb 7 23)
  lf r) sA_lens_Share fu (zp sA_lens_Share [a, b, c, d, e, f, g, h]) K
  | 0 => by funext a b c d e f g h; kernel_rfl
  | fu + 1 => by
    have ih := lqA_lens_Share (lf := lf) (r := r) K fu
    funext a b c d e f g h
    rw [lpA_lens_Share]
    simp only [ih]
    kernel_rfl
theorem kqA_lens_Share {lf : Nat} {r : RT} : kcA_lens_Share lf r = (fun a => (tK 282 (pb 6 23) lf r) (.exit 0) (zp [4] [a])) := by kernel_rfl
theorem st_lens_Share {lf : Nat} {r : RT} {a : V} : evStep Tryz.prog gt lf r 282 #[a] = inside (b_lens_Share lf r a) := by 
  unfold b_lens_Share
  simp only [kqA_lens_Share, lqA_lens_Share]
  kernel_rfl

/- slices_Contains_int_int -/
def b_slices_Contains_int_int (lf : Nat) (r : RT) (a b : V) : M V := kcl r 286 [a, b] fun c => kgq c (ii 0) fun d => outK [d]
theorem st_slices_Contains_int_int {lf : Nat} {r : RT} {a b : V} : evStep Tryz.prog gt lf r 283 #[a, b] = inside (b_slices_Contains_int_int lf r a b) := by kernel_rfl

/- delta_length -/
def b_delta_length (lf : Nat) (r : RT) (a : V) : M V := kgq a (ii 1) fun b => ifV b (klq a (ii 20) fun c => outK [c]) (outK [bF])
theorem st_delta_length {lf : Nat} {r : RT} {a : V} : evStep Tryz.prog gt lf r 284 #[a] = inside (b_delta_length lf r a) := by kernel_rfl

/- lens_between -/
def b_lens_between (lf : Nat) (r : RT) (a b c : V) : M V := kbx 3 b fun d => kbx 3 c fun e => kcl r 287 [a, (Value.func (Go.Fn.func 288) #[] #[d, e])] fun f => knt f fun g => outK [g]
theorem st_lens_between {lf : Nat} {r : RT} {a b c : V} : evStep Tryz.prog gt lf r 285 #[a, b, c] = inside (b_lens_between lf r a b c) := by kernel_rfl

/- slices_Index_int_int -/
def lpA_slices_Index_int_int (lf : Nat) (r : RT) : Nat→((M V) × (V→M V))→V→V→V→V→V→M V
  | 0, _, _, _, _, _, _ => .fail
  | fu + 1, k, a, b, c, d, e => kls e d fun f => ifV f (kix a e fun g => kld g fun h => keq b h fun i => ifV i (k.2 e) (kad e (ii 1) fun g => lpA_slices_Index_int_int lf r fu k a b c d g)) (k.1)
def sA_slices_Index_int_int : List Nat := [0, 1, 4, 7, 8]
def kcA_slices_Index_int_int (lf : Nat) (r : RT) : (M V) × (V→M V) := (outK [(ii (-1))], fun a => outK [a])
def b_slices_Index_int_int (lf : Nat) (r : RT) (a b : V) : M V := kln a fun c => lpA_slices_Index_int_int lf r lf (kcA_slices_Index_int_int lf r) a b (ii 0) c (ii 0)
theorem lqA_slices_Index_int_int {lf : Nat} {r : RT} (K : KT) : ∀ fu, lpA_slices_Index_int_int lf r fu ((K (.exit 0) [], fun a => K .ret (zp [4] [a]))) = fun a b c d e
  => loopK (cQ 286 (pb 5 5) lf r) sA_slices_Index_int_int fu (zp sA_slices_Index_int_int [a, b, c, d, e]) K
  | 0 => by funext a b c d e; kernel_rfl
  | fu + 1 => by
    have ih := lqA_slices_Index_int_int (lf := lf) (r := r) K fu
    funext a b c d e
    rw [lpA_slices_Index_int_int]
    simp only [ih]
    kernel_rfl
theorem kqA_slices_Index_int_int {lf : Nat} {r : RT} : kcA_slices_Index_int_int lf r = (((tK 286 (pb 4 5) lf r) (.exit 0) [], fun a => (tK 286 (pb 4 5) lf r) .ret (zp [4] [a]))) := by kernel_rfl
theorem st_slices_Index_int_int {lf : Nat} {r : RT} {a b : V} : evStep Tryz.prog gt lf r 286 #[a, b] = inside (b_slices_Index_int_int lf r a b) := by 
  unfold b_slices_Index_int_int
  simp only [kqA_slices_Index_int_int, lqA_slices_Index_int_int]
  kernel_rfl

/- slices_ContainsFunc_int_int -/
def b_slices_ContainsFunc_int_int (lf : Nat) (r : RT) (a b : V) : M V := kcl r 289 [a, b] fun c => kgq c (ii 0) fun d => outK [d]
theorem st_slices_ContainsFunc_int_int {lf : Nat} {r : RT} {a b : V} : evStep Tryz.prog gt lf r 287 #[a, b] = inside (b_slices_ContainsFunc_int_int lf r a b) := by kernel_rfl

/- lens_between_1 -/
def b_lens_between_1 (lf : Nat) (r : RT) (a b c : V) : M V := kld b fun d => kls a d fun e => ifV e (outK [bT]) (kld c fun f => kgr a f fun g => outK [g])
theorem st_lens_between_1 {lf : Nat} {r : RT} {a b c : V} : evStep Tryz.prog gt lf r 288 #[a, b, c] = inside (b_lens_between_1 lf r a b c) := by kernel_rfl

/- slices_IndexFunc_int_int -/
def lpA_slices_IndexFunc_int_int (lf : Nat) (r : RT) : Nat→((M V) × (V→M V))→V→V→V→V→V→M V
  | 0, _, _, _, _, _, _ => .fail
  | fu + 1, k, a, b, c, d, e => kls e d fun f => ifV f (kix a e fun g => kld g fun h => callV Tryz.prog r b [h] fun i => ifV i (k.2 e) (kad e (ii 1) fun g =>
   lpA_slices_IndexFunc_int_int lf r fu k a b c d g)) (k.1)
def sA_slices_IndexFunc_int_int : List Nat := [0, 1, 4, 7, 8]
def kcA_slices_IndexFunc_int_int (lf : Nat) (r : RT) : (M V) × (V→M V) := (outK [(ii (-1))], fun a => outK [a])
def b_slices_IndexFunc_int_int (lf : Nat) (r : RT) (a b : V) : M V := kln a fun c => lpA_slices_IndexFunc_int_int lf r lf (kcA_slices_IndexFunc_int_int lf r) a b (ii 0) c (ii 0)
theorem lqA_slices_IndexFunc_int_int {lf : Nat} {r : RT} (K : KT) : ∀ fu, lpA_slices_IndexFunc_int_int lf r fu ((K (.exit 0) [], fun a => K .ret (zp [4] [a]))) = fun a b
  c d e => loopK (cQ 289 (pb 5 5) lf r) sA_slices_IndexFunc_int_int fu (zp sA_slices_IndexFunc_int_int [a, b, c, d, e]) K
  | 0 => by funext a b c d e; kernel_rfl
  | fu + 1 => by
    have ih := lqA_slices_IndexFunc_int_int (lf := lf) (r := r) K fu
    funext a b c d e
    rw [lpA_slices_IndexFunc_int_int]
    simp only [ih]
    kernel_rfl
theorem kqA_slices_IndexFunc_int_int {lf : Nat} {r : RT} : kcA_slices_IndexFunc_int_int lf r = (((tK 289 (pb 4 5) lf r) (.exit 0) [], fun a => (tK 289 (pb 4 5) lf r) .ret (zp [4] [a]))) := by kernel_rfl
theorem st_slices_IndexFunc_int_int {lf : Nat} {r : RT} {a b : V} : evStep Tryz.prog gt lf r 289 #[a, b] = inside (b_slices_IndexFunc_int_int lf r a b) := by 
  unfold b_slices_IndexFunc_int_int
  simp only [kqA_slices_IndexFunc_int_int, lqA_slices_IndexFunc_int_int]
  kernel_rfl

end
end Go.Proofs.YtmjolmggelkjlaaGreat
