/- The engine, whole. -/
import Derived.Test.YtmbkklobijflkaaEngR
