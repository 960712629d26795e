/- The engine, whole. -/
import Derived.Test.YtolnmgekneoaaaaEngR
